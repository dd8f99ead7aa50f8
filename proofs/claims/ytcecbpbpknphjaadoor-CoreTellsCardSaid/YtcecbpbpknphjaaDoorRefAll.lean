/-
  THE WALK of the reference's all and All: every list of eight counts of one sum.
-/
import Derived.Test.YtcecbpbpknphjaaDoorRowsApp
import Derived.Test.YtcecbpbpknphjaaDoorFitFirst
import Derived.Test.YtcecbpbpknphjaaDoorOwnA
import Derived.Test.YtcecbpbpknphjaaDoorFormTrue
import Derived.Test.YtcecbpbpknphjaaDoorVennP2
import Derived.Deep.AppendLies
namespace Go.Proofs.YtcecbpbpknphjaaDoor
open Go.RowKit

abbrev flat8 (l : List (List Int)) : List Value := l.flatMap fun r => r.map (Value.int .i64)
theorem counts_info : (Tryd.prog.info? 77).map (fun i => (i.zero, i.size, i.bytes)) = some (some (.agg zero8), 8, 64) := by kernel_rfl
/-- What all leaves: the lists L in the row at its out; the rest as it lay. -/
structure AllPost (go : Nat) (w : World) (v : Value) (L : List (List Int)) (w' : World) : Prop where
  out : ∃ v', Blk w' go 80 #[v'] ∧ w'.ownsRow (go + 1) 77 8 v' L.length (flat8 L) ∧ ∀ b, v'.ownBlock = some b → v.ownBlock = some b ∨ w.heap.size ≤ b
  but : But (fun b => b = go ∨ v.ownBlock = some b) w w'
theorem AllPost.leaf {w W w1 : World} {go gg cap : Nat} {v v0 : Value} {L : List (List Int)} {r : List Int} {o : Obj} (hB0 : But (fun b => b = go ∨ v.ownBlock = some b) w W) (GG : Blk w1 go 80 #[v0])
    (hown1 : w1.ownsRow (go + 1) 77 8 (.slice (some ⟨gg, 0, none⟩) (L.length + 1) cap) (L.length + 1) (flat8 L ++ r.map (Value.int .i64))) (hgrow : (W.alloc o).drew.grownBy w1 v.ownBlock) (hat : v.ownBlock = some gg ∨ gg = W.heap.size + 1) :
    AllPost go w v (L ++ [r]) (w1.setCell ⟨go, 0, none⟩ (.slice (some ⟨gg, 0, none⟩) (L.length + 1) cap)) := by
  have hgg := (hown1.lt gg rfl).1
  refine ⟨⟨.slice (some ⟨gg, 0, none⟩) (L.length + 1) cap, ?_, ?_, ?_⟩, ?_⟩
  · have := GG.set_ 0 (.slice (some ⟨gg, 0, none⟩) (L.length + 1) cap)
    simpa using this
  · have h := own_but (C := fun b => b = go) hown1 ((But.refl (fun b => b = go) w1).set_ (p := ⟨go, 0, none⟩) rfl (.slice (some ⟨gg, 0, none⟩) (L.length + 1) cap)) (fun b hb e => by have h2 := (hown1.lt b hb).1; omega)
    rw [show (L ++ [r]).length = L.length + 1 by simp, show flat8 (L ++ [r]) = flat8 L ++ r.map (Value.int .i64) by simp [flat8]]
    exact h
  · intro b hb
    have hb : gg = b := by simpa [Value.ownBlock] using hb
    subst hb
    rcases hat with h | h
    · exact .inl h
    · exact .inr (by have := hB0.size; omega)
  · exact (((hB0.alloc o).drew).trans ((But.of_grown hgrow).wide (fun b h => .inr h))).set_ (p := ⟨go, 0, none⟩) (.inl rfl) _

set_option maxHeartbeats 4000000 in
set_option maxRecDepth 100000 in
theorem ref_all_7 (u : Int) (x0 x1 x2 x3 x4 x5 x6 x7 : Int) (w : World) (go : Nat) (v : Value) (L : List (List Int)) (hu : 0 ≤ u ∧ u ≤ 6) (hG : Blk w go 80 #[v]) (hown : w.ownsRow (go + 1) 77 8 v L.length (flat8 L)) (hlen : L.length + (Venn.allG 0 u.toNat).length ≤ 100000) :
    Calls Tryd.prog 88 #[.int .i64 u, .int .i64 7, .agg #[.int .i64 x0, .int .i64 x1, .int .i64 x2, .int .i64 x3, .int .i64 x4, .int .i64 x5, .int .i64 x6, .int .i64 x7], .pointer (some ⟨go, 0, none⟩)] w (fun e w' => e = .returned (.tuple #[]) ∧ AllPost go w v (L ++ (Venn.allG 0 u.toNat).map ([x0, x1, x2, x3, x4, x5, x6] ++ ·)) w') := by
  obtain ⟨VA, vc, rfl⟩ := ownsRow_slice hown
  have hgl := hG.lt
  have hL := Lib.hid (show L ++ (Venn.allG 0 u.toNat).map ([x0, x1, x2, x3, x4, x5, x6] ++ ·) = L ++ [[x0, x1, x2, x3, x4, x5, x6, u]] by simp [Venn.allG]; omega)
  rw [hL.out]
  obtain ⟨i0, hi0, hz0, hz1, hz2⟩ := info_parts counts_info
  simp only [Venn.allG, List.length_cons, List.length_nil] at hlen
  go_enter Tryd.func88, Tryd.ntmps88
  go_wp2_with fail
  have G0 := hG.alloc (.cells #[.int .i64 x0, .int .i64 x1, .int .i64 x2, .int .i64 x3, .int .i64 x4, .int .i64 x5, .int .i64 x6, .int .i64 u] 77)
  have B0 := Blk.new w 77 #[.int .i64 x0, .int .i64 x1, .int .i64 x2, .int .i64 x3, .int .i64 x4, .int .i64 x5, .int .i64 x6, .int .i64 u]
  have O0 := hown.alloc (.cells #[.int .i64 x0, .int .i64 x1, .int .i64 x2, .int .i64 x3, .int .i64 x4, .int .i64 x5, .int .i64 x6, .int .i64 u] 77)
  have hB0 : But (fun b => b = go ∨ (Value.slice VA L.length vc).ownBlock = some b) w (w.alloc (.cells #[.int .i64 x0, .int .i64 x1, .int .i64 x2, .int .i64 x3, .int .i64 x4, .int .i64 x5, .int .i64 x6, .int .i64 u] 77)) := (But.refl _ _).alloc _
  have hne : ¬ go = w.heap.size := by omega
  have hne2 : ¬ w.heap.size = go := by omega
  have hob : ∀ b, (Value.slice VA L.length vc).ownBlock = some b → go + 1 ≤ b ∧ b < w.heap.size := hown.lt
  clear hG hown
  have hsz : (w.alloc (.cells #[.int .i64 x0, .int .i64 x1, .int .i64 x2, .int .i64 x3, .int .i64 x4, .int .i64 x5, .int .i64 x6, .int .i64 u] 77)).heap.size = w.heap.size + 1 := by simp
  revert G0 B0 O0 hB0 hsz
  generalize World.alloc _ _ = W
  intro G0 B0 O0 hB0 hsz
  have HSZ := Lib.hid hsz
  clear hsz
  have c0 := G0.cell 0
  have f0 := G0.frozen 0
  have gl := G0.lt
  have bl := B0.lt
  obtain ⟨d0, d1, d2, d3, d4, d5, d6, d7⟩ := B0.cells8.1
  go_region_law (refine step_append_lies _ (by rfl) _ _ _ (by rfl) (go + 1) 77 i0 _ 8 64 Tryd.underlying80 hi0 hz0 hz1 hz2 rfl (by omega) (.slice VA L.length vc) L.length (flat8 L) (by rfl) ((O0.alloc _).drew) ⟨W.heap.size, 0, none⟩ 1 1 [.int .i64 x0, .int .i64 x1, .int .i64 x2, .int .i64 x3, .int .i64 x4, .int .i64 x5, .int .i64 x6, .int .i64 u] (by rfl) (by rfl) (World.news_of_block (cs := #[.int .i64 x0, .int .i64 x1, .int .i64 x2, .int .i64 x3, .int .i64 x4, .int .i64 x5, .int .i64 x6, .int .i64 u]) (t := 77) (fr := (0, 0)) (heap_alloc_new W _)) (by simp [Value.oneCell']) (by omega) (by unfold maxLen; omega) (by omega) (by have := HSZ.out; simp; omega) (W.heap.size + 1) (by simp) ?_; intro gg cap w1 hown1 hgrow hat hlt2; have GG := ((G0.alloc (.cells #[.int .i64 x0, .int .i64 x1, .int .i64 x2, .int .i64 x3, .int .i64 x4, .int .i64 x5, .int .i64 x6, .int .i64 u] 77)).drew).grown (w' := w1) hgrow (fun h => by have := hob go h.symm; omega); have c1 := GG.cell 0; have f1 := GG.frozen 0; have gl1 := GG.lt)
  all_goals
    go_wp2
    exact bodyPost_ret (results_none rfl _ _ _) rfl ⟨rfl, AllPost.leaf (r := [x0, x1, x2, x3, x4, x5, x6, u]) hB0 GG hown1 hgrow hat⟩
theorem But.narrow {C D : Nat → Prop} {w w' : World} (h : But D w w') (hcd : ∀ b, b < w.heap.size → D b → C b) : But C w w' := ⟨h.os, h.tape, h.output, h.size, fun k hk hc => h.block k hk (fun e => hc (hcd k hk e))⟩
theorem But.setNew {C : Nat → Prop} {X Y : World} (h : But C X Y) {p : Addr} (hp : X.heap.size ≤ p.block) (v : Value) : But C X (Y.setCell p v) :=
  ((h.wide (D := fun b => C b ∨ b = p.block) (fun _ h => .inl h)).set_ (p := p) (.inr rfl) v).narrow (fun _ hb h => by rcases h with h | h; exact h; omega)
/-- The lists whose field behind p is under k. -/
def allPre (p : List Int) (d u k : Nat) : List (List Int) := (List.range k).flatMap fun j => (Venn.allG d (u - j)).map fun x => p ++ ((j : Int) :: x)
theorem allPre_succ (p : List Int) (d u k : Nat) : allPre p d u (k + 1) = allPre p d u k ++ (Venn.allG d (u - k)).map ((p ++ [(k : Int)]) ++ ·) := by
  simp [allPre, List.range_succ, List.flatMap_append]
theorem allPre_all (p : List Int) (d u : Nat) : allPre p d u (u + 1) = (Venn.allG (d + 1) u).map (p ++ ·) := by
  simp only [allPre, Venn.allG, List.map_flatMap, List.map_map]
  rfl
theorem allPre_len (p : List Int) (d u : Nat) : ∀ m k : Nat, (allPre p d u k).length ≤ (allPre p d u (k + m)).length := by
  intro m
  induction m with
  | zero => intro k; exact Nat.le_refl _
  | succ m ih =>
    intro k
    refine Nat.le_trans (ih k) ?_
    rw [show k + (m + 1) = (k + m) + 1 by omega, allPre_succ, List.length_append]
    omega
/-- The loop's state of all. -/
structure AllInv (go : Nat) (w : World) (v : Value) (L : List (List Int)) (wr : World) : Prop where
  out : ∃ v', Blk wr go 80 #[v'] ∧ wr.ownsRow (go + 1) 77 8 v' L.length (flat8 L) ∧ ∀ b, v'.ownBlock = some b → v.ownBlock = some b ∨ w.heap.size + 1 ≤ b
  but : But (fun b => b = go ∨ v.ownBlock = some b) w wr
theorem AllInv.start {go : Nat} {w : World} {v : Value} {L : List (List Int)} (hG : Blk w go 80 #[v]) (hown : w.ownsRow (go + 1) 77 8 v L.length (flat8 L)) (o : Obj) : AllInv go w v L (w.alloc o) :=
  ⟨⟨v, hG.alloc o, hown.alloc o, fun _ hb => .inl hb⟩, (But.refl _ _).alloc o⟩
theorem AllInv.step {go : Nat} {w W1 w2 : World} {v v1 : Value} {L2 : List (List Int)} (hv1 : ∀ b, v1.ownBlock = some b → v.ownBlock = some b ∨ w.heap.size + 1 ≤ b) (hsz : w.heap.size + 1 ≤ W1.heap.size) (hbut : But (fun b => b = go ∨ v.ownBlock = some b) w W1) (hP : AllPost go W1 v1 L2 w2) : AllInv go w v L2 w2 := by
  obtain ⟨⟨v2, hG2, hO2, hv2⟩, hb2⟩ := hP
  refine ⟨⟨v2, hG2, hO2, fun b hb => ?_⟩, ⟨hb2.os.trans hbut.os, hb2.tape.trans hbut.tape, hb2.output.trans hbut.output, Nat.le_trans hbut.size hb2.size, fun k hk hc => (hb2.block k (by omega) (fun h => ?_)).trans (hbut.block k hk hc)⟩⟩
  · rcases hv2 b hb with h | h
    · exact hv1 b h
    · exact .inr (by omega)
  · rcases h with h | h
    · exact hc (.inl h)
    · rcases hv1 k h with h | h
      · exact hc (.inr h)
      · omega
theorem AllInv.end_ {go : Nat} {w wr : World} {v : Value} {L : List (List Int)} (h : AllInv go w v L wr) : AllPost go w v L wr := by
  obtain ⟨⟨v2, hG2, hO2, hv2⟩, hb2⟩ := h
  exact ⟨⟨v2, hG2, hO2, fun b hb => (hv2 b hb).imp id (by omega)⟩, hb2⟩

set_option maxHeartbeats 4000000 in
set_option maxRecDepth 100000 in
theorem ref_all_6 (u : Int) (x0 x1 x2 x3 x4 x5 x6 x7 : Int) (w : World) (go : Nat) (v : Value) (L : List (List Int)) (hu : 0 ≤ u ∧ u ≤ 6) (hG : Blk w go 80 #[v]) (hown : w.ownsRow (go + 1) 77 8 v L.length (flat8 L)) (hlen : L.length + (Venn.allG 1 u.toNat).length ≤ 100000) :
    Calls Tryd.prog 88 #[.int .i64 u, .int .i64 6, .agg #[.int .i64 x0, .int .i64 x1, .int .i64 x2, .int .i64 x3, .int .i64 x4, .int .i64 x5, .int .i64 x6, .int .i64 x7], .pointer (some ⟨go, 0, none⟩)] w (fun e w' => e = .returned (.tuple #[]) ∧ AllPost go w v (L ++ (Venn.allG 1 u.toNat).map ([x0, x1, x2, x3, x4, x5] ++ ·)) w') := by
  obtain ⟨VA, vc, rfl⟩ := ownsRow_slice hown
  have hgl := hG.lt
  have hob := hown.lt
  have HL0 := Lib.hid hlen
  have HG := Lib.hid hG
  have HO := Lib.hid hown
  have HALL := Lib.hid (show allPre [x0, x1, x2, x3, x4, x5] 0 u.toNat (u.toNat + 1) = (Venn.allG 1 u.toNat).map ([x0, x1, x2, x3, x4, x5] ++ ·) from allPre_all [x0, x1, x2, x3, x4, x5] 0 u.toNat)
  have HLE := Lib.hid (allPre_len [x0, x1, x2, x3, x4, x5] 0 u.toNat)
  clear hlen hG hown
  go_enter Tryd.func88, Tryd.ntmps88
  go_wp2
  go_loopw [8] (fun i wr => ∃ (k : Nat) (y : Int), k ≤ u.toNat + 1 ∧ i = .int .i64 k ∧ Blk wr w.heap.size 77 #[.int .i64 x0, .int .i64 x1, .int .i64 x2, .int .i64 x3, .int .i64 x4, .int .i64 x5, .int .i64 y, .int .i64 x7] ∧ AllInv go w (.slice VA L.length vc) (L ++ allPre [x0, x1, x2, x3, x4, x5] 0 u.toNat k) wr)
    (fun i _ => u.toNat + 1 - (intOf i).toNat)
  case atStart => exact ⟨0, x6, by omega, rfl, Blk.new _ _ _, by simpa [allPre] using AllInv.start HG.out HO.out _⟩
  case round =>
    obtain ⟨k, y, hk, rfl, hB, hI⟩ := hrel
    by_cases hlt : (k : Int) ≤ u
    · obtain ⟨⟨v1, hG1, hO1, hv1⟩, hbut⟩ := hI
      obtain ⟨V1, c1', rfl⟩ := ownsRow_slice hO1
      have hlb := hO1.lt
      have hne : ¬ go = w.heap.size := by omega
      have hne1 : ∀ b, (Value.slice V1 (L ++ allPre [x0, x1, x2, x3, x4, x5] 0 u.toNat k).length c1').ownBlock = some b → ¬ b = w.heap.size := fun b hb e => by
        rcases hv1 b hb with h | h
        · have := (hob b h).2; omega
        · omega
      have hbl := hB.lt
      have hfz := hB.frozen 6
      have hcl := hB.cell 6
      have B1 := hB.set_ 6 (.int .i64 (k : Int))
      have G1 := hG1.far (p := ⟨w.heap.size, 6, none⟩) hne (.int .i64 (k : Int))
      have O1 := own_but (C := fun b => b = w.heap.size) hO1 ((But.refl (fun b => b = w.heap.size) wr).set_ (p := ⟨w.heap.size, 6, none⟩) rfl (.int .i64 (k : Int))) hne1
      have hb1 := But.setNew (p := ⟨w.heap.size, 6, none⟩) hbut (Nat.le_refl _) (.int .i64 (k : Int))
      have hbz : w.heap.size + 1 ≤ (wr.setCell ⟨w.heap.size, 6, none⟩ (.int .i64 (k : Int))).heap.size := by simp; omega
      have HLEN := Lib.hid (show (L ++ allPre [x0, x1, x2, x3, x4, x5] 0 u.toNat k).length + (Venn.allG 0 (u - (k : Int)).toNat).length ≤ 100000 by
        have h1 := HLE.out (u.toNat - k) (k + 1)
        rw [allPre_succ, show k + 1 + (u.toNat - k) = u.toNat + 1 by omega, HALL.out] at h1
        have h2 := HL0.out
        rw [show (u - (k : Int)).toNat = u.toNat - k by omega]
        simp only [List.length_append, List.length_map] at h1 ⊢
        omega)
      have HEQ := Lib.hid (show (L ++ allPre [x0, x1, x2, x3, x4, x5] 0 u.toNat k) ++ (Venn.allG 0 (u - (k : Int)).toNat).map ([x0, x1, x2, x3, x4, x5, (k : Int)] ++ ·) = L ++ allPre [x0, x1, x2, x3, x4, x5] 0 u.toNat (k + 1) by
        rw [allPre_succ, show (u - (k : Int)).toNat = u.toNat - k by omega, List.append_assoc]
        rfl)
      have hwr1 : IntKind.i64.wrap (u - (k : Int)) = u - (k : Int) := wrap_of (by omega) (by omega)
      go_upto_region 8 with (fail)
      clear hB hbl hfz hcl hG1 hO1 hbut
      revert B1 G1 O1 hb1 hbz
      generalize World.setCell _ _ _ = W1
      intro B1 G1 O1 hb1 hbz
      have HV1 := Lib.hid hv1
      have HB1 := Lib.hid hb1
      have HBZ := Lib.hid hbz
      have HNE := Lib.hid hne1
      have HOB := Lib.hid hob
      replace B1 : Blk W1 w.heap.size 77 #[.int .i64 x0, .int .i64 x1, .int .i64 x2, .int .i64 x3, .int .i64 x4, .int .i64 x5, .int .i64 (k : Int), .int .i64 x7] := by simpa using B1
      obtain ⟨d0, d1, d2, d3, d4, d5, d6, d7⟩ := B1.cells8.1
      have bl := B1.lt
      clear hv1 hb1 hbz hne1 hob
      go_wp2_with fail
      refine (ref_all_7 (u - (k : Int)) x0 x1 x2 x3 x4 x5 (k : Int) x7 W1 go _ _ (by omega) G1 O1 HLEN.out).mono ?_
      rintro e w2 ⟨rfl, hP⟩
      rw [HEQ.out] at hP
      have hB2 := B1.but hP.but (fun h => by
        rcases h with h | h
        · omega
        · exact HNE.out _ h rfl)
      go_wp2
      go_roundw
      case rel => exact ⟨k + 1, (k : Int), by omega, by go_num, hB2, AllInv.step HV1.out HBZ.out HB1.out hP⟩
      case measure => simp [intOf]; omega
    · obtain rfl : k = u.toNat + 1 := by omega
      rw [HALL.out] at hI
      go_wp2
      exact bodyPost_end (results_none rfl _ _ _) rfl ⟨rfl, hI.end_⟩
set_option maxHeartbeats 4000000 in
set_option maxRecDepth 100000 in
theorem ref_all_5 (u : Int) (x0 x1 x2 x3 x4 x5 x6 x7 : Int) (w : World) (go : Nat) (v : Value) (L : List (List Int)) (hu : 0 ≤ u ∧ u ≤ 6) (hG : Blk w go 80 #[v]) (hown : w.ownsRow (go + 1) 77 8 v L.length (flat8 L)) (hlen : L.length + (Venn.allG 2 u.toNat).length ≤ 100000) :
    Calls Tryd.prog 88 #[.int .i64 u, .int .i64 5, .agg #[.int .i64 x0, .int .i64 x1, .int .i64 x2, .int .i64 x3, .int .i64 x4, .int .i64 x5, .int .i64 x6, .int .i64 x7], .pointer (some ⟨go, 0, none⟩)] w (fun e w' => e = .returned (.tuple #[]) ∧ AllPost go w v (L ++ (Venn.allG 2 u.toNat).map ([x0, x1, x2, x3, x4] ++ ·)) w') := by
  obtain ⟨VA, vc, rfl⟩ := ownsRow_slice hown
  have hgl := hG.lt
  have hob := hown.lt
  have HL0 := Lib.hid hlen
  have HG := Lib.hid hG
  have HO := Lib.hid hown
  have HALL := Lib.hid (show allPre [x0, x1, x2, x3, x4] 1 u.toNat (u.toNat + 1) = (Venn.allG 2 u.toNat).map ([x0, x1, x2, x3, x4] ++ ·) from allPre_all [x0, x1, x2, x3, x4] 1 u.toNat)
  have HLE := Lib.hid (allPre_len [x0, x1, x2, x3, x4] 1 u.toNat)
  clear hlen hG hown
  go_enter Tryd.func88, Tryd.ntmps88
  go_wp2
  go_loopw [8] (fun i wr => ∃ (k : Nat) (y : Int), k ≤ u.toNat + 1 ∧ i = .int .i64 k ∧ Blk wr w.heap.size 77 #[.int .i64 x0, .int .i64 x1, .int .i64 x2, .int .i64 x3, .int .i64 x4, .int .i64 y, .int .i64 x6, .int .i64 x7] ∧ AllInv go w (.slice VA L.length vc) (L ++ allPre [x0, x1, x2, x3, x4] 1 u.toNat k) wr)
    (fun i _ => u.toNat + 1 - (intOf i).toNat)
  case atStart => exact ⟨0, x5, by omega, rfl, Blk.new _ _ _, by simpa [allPre] using AllInv.start HG.out HO.out _⟩
  case round =>
    obtain ⟨k, y, hk, rfl, hB, hI⟩ := hrel
    by_cases hlt : (k : Int) ≤ u
    · obtain ⟨⟨v1, hG1, hO1, hv1⟩, hbut⟩ := hI
      obtain ⟨V1, c1', rfl⟩ := ownsRow_slice hO1
      have hlb := hO1.lt
      have hne : ¬ go = w.heap.size := by omega
      have hne1 : ∀ b, (Value.slice V1 (L ++ allPre [x0, x1, x2, x3, x4] 1 u.toNat k).length c1').ownBlock = some b → ¬ b = w.heap.size := fun b hb e => by
        rcases hv1 b hb with h | h
        · have := (hob b h).2; omega
        · omega
      have hbl := hB.lt
      have hfz := hB.frozen 5
      have hcl := hB.cell 5
      have B1 := hB.set_ 5 (.int .i64 (k : Int))
      have G1 := hG1.far (p := ⟨w.heap.size, 5, none⟩) hne (.int .i64 (k : Int))
      have O1 := own_but (C := fun b => b = w.heap.size) hO1 ((But.refl (fun b => b = w.heap.size) wr).set_ (p := ⟨w.heap.size, 5, none⟩) rfl (.int .i64 (k : Int))) hne1
      have hb1 := But.setNew (p := ⟨w.heap.size, 5, none⟩) hbut (Nat.le_refl _) (.int .i64 (k : Int))
      have hbz : w.heap.size + 1 ≤ (wr.setCell ⟨w.heap.size, 5, none⟩ (.int .i64 (k : Int))).heap.size := by simp; omega
      have HLEN := Lib.hid (show (L ++ allPre [x0, x1, x2, x3, x4] 1 u.toNat k).length + (Venn.allG 1 (u - (k : Int)).toNat).length ≤ 100000 by
        have h1 := HLE.out (u.toNat - k) (k + 1)
        rw [allPre_succ, show k + 1 + (u.toNat - k) = u.toNat + 1 by omega, HALL.out] at h1
        have h2 := HL0.out
        rw [show (u - (k : Int)).toNat = u.toNat - k by omega]
        simp only [List.length_append, List.length_map] at h1 ⊢
        omega)
      have HEQ := Lib.hid (show (L ++ allPre [x0, x1, x2, x3, x4] 1 u.toNat k) ++ (Venn.allG 1 (u - (k : Int)).toNat).map ([x0, x1, x2, x3, x4, (k : Int)] ++ ·) = L ++ allPre [x0, x1, x2, x3, x4] 1 u.toNat (k + 1) by
        rw [allPre_succ, show (u - (k : Int)).toNat = u.toNat - k by omega, List.append_assoc]
        rfl)
      have hwr1 : IntKind.i64.wrap (u - (k : Int)) = u - (k : Int) := wrap_of (by omega) (by omega)
      go_upto_region 8 with (fail)
      clear hB hbl hfz hcl hG1 hO1 hbut
      revert B1 G1 O1 hb1 hbz
      generalize World.setCell _ _ _ = W1
      intro B1 G1 O1 hb1 hbz
      have HV1 := Lib.hid hv1
      have HB1 := Lib.hid hb1
      have HBZ := Lib.hid hbz
      have HNE := Lib.hid hne1
      have HOB := Lib.hid hob
      replace B1 : Blk W1 w.heap.size 77 #[.int .i64 x0, .int .i64 x1, .int .i64 x2, .int .i64 x3, .int .i64 x4, .int .i64 (k : Int), .int .i64 x6, .int .i64 x7] := by simpa using B1
      obtain ⟨d0, d1, d2, d3, d4, d5, d6, d7⟩ := B1.cells8.1
      have bl := B1.lt
      clear hv1 hb1 hbz hne1 hob
      go_wp2_with fail
      refine (ref_all_6 (u - (k : Int)) x0 x1 x2 x3 x4 (k : Int) x6 x7 W1 go _ _ (by omega) G1 O1 HLEN.out).mono ?_
      rintro e w2 ⟨rfl, hP⟩
      rw [HEQ.out] at hP
      have hB2 := B1.but hP.but (fun h => by
        rcases h with h | h
        · omega
        · exact HNE.out _ h rfl)
      go_wp2
      go_roundw
      case rel => exact ⟨k + 1, (k : Int), by omega, by go_num, hB2, AllInv.step HV1.out HBZ.out HB1.out hP⟩
      case measure => simp [intOf]; omega
    · obtain rfl : k = u.toNat + 1 := by omega
      rw [HALL.out] at hI
      go_wp2
      exact bodyPost_end (results_none rfl _ _ _) rfl ⟨rfl, hI.end_⟩
set_option maxHeartbeats 4000000 in
set_option maxRecDepth 100000 in
theorem ref_all_4 (u : Int) (x0 x1 x2 x3 x4 x5 x6 x7 : Int) (w : World) (go : Nat) (v : Value) (L : List (List Int)) (hu : 0 ≤ u ∧ u ≤ 6) (hG : Blk w go 80 #[v]) (hown : w.ownsRow (go + 1) 77 8 v L.length (flat8 L)) (hlen : L.length + (Venn.allG 3 u.toNat).length ≤ 100000) :
    Calls Tryd.prog 88 #[.int .i64 u, .int .i64 4, .agg #[.int .i64 x0, .int .i64 x1, .int .i64 x2, .int .i64 x3, .int .i64 x4, .int .i64 x5, .int .i64 x6, .int .i64 x7], .pointer (some ⟨go, 0, none⟩)] w (fun e w' => e = .returned (.tuple #[]) ∧ AllPost go w v (L ++ (Venn.allG 3 u.toNat).map ([x0, x1, x2, x3] ++ ·)) w') := by
  obtain ⟨VA, vc, rfl⟩ := ownsRow_slice hown
  have hgl := hG.lt
  have hob := hown.lt
  have HL0 := Lib.hid hlen
  have HG := Lib.hid hG
  have HO := Lib.hid hown
  have HALL := Lib.hid (show allPre [x0, x1, x2, x3] 2 u.toNat (u.toNat + 1) = (Venn.allG 3 u.toNat).map ([x0, x1, x2, x3] ++ ·) from allPre_all [x0, x1, x2, x3] 2 u.toNat)
  have HLE := Lib.hid (allPre_len [x0, x1, x2, x3] 2 u.toNat)
  clear hlen hG hown
  go_enter Tryd.func88, Tryd.ntmps88
  go_wp2
  go_loopw [8] (fun i wr => ∃ (k : Nat) (y : Int), k ≤ u.toNat + 1 ∧ i = .int .i64 k ∧ Blk wr w.heap.size 77 #[.int .i64 x0, .int .i64 x1, .int .i64 x2, .int .i64 x3, .int .i64 y, .int .i64 x5, .int .i64 x6, .int .i64 x7] ∧ AllInv go w (.slice VA L.length vc) (L ++ allPre [x0, x1, x2, x3] 2 u.toNat k) wr)
    (fun i _ => u.toNat + 1 - (intOf i).toNat)
  case atStart => exact ⟨0, x4, by omega, rfl, Blk.new _ _ _, by simpa [allPre] using AllInv.start HG.out HO.out _⟩
  case round =>
    obtain ⟨k, y, hk, rfl, hB, hI⟩ := hrel
    by_cases hlt : (k : Int) ≤ u
    · obtain ⟨⟨v1, hG1, hO1, hv1⟩, hbut⟩ := hI
      obtain ⟨V1, c1', rfl⟩ := ownsRow_slice hO1
      have hlb := hO1.lt
      have hne : ¬ go = w.heap.size := by omega
      have hne1 : ∀ b, (Value.slice V1 (L ++ allPre [x0, x1, x2, x3] 2 u.toNat k).length c1').ownBlock = some b → ¬ b = w.heap.size := fun b hb e => by
        rcases hv1 b hb with h | h
        · have := (hob b h).2; omega
        · omega
      have hbl := hB.lt
      have hfz := hB.frozen 4
      have hcl := hB.cell 4
      have B1 := hB.set_ 4 (.int .i64 (k : Int))
      have G1 := hG1.far (p := ⟨w.heap.size, 4, none⟩) hne (.int .i64 (k : Int))
      have O1 := own_but (C := fun b => b = w.heap.size) hO1 ((But.refl (fun b => b = w.heap.size) wr).set_ (p := ⟨w.heap.size, 4, none⟩) rfl (.int .i64 (k : Int))) hne1
      have hb1 := But.setNew (p := ⟨w.heap.size, 4, none⟩) hbut (Nat.le_refl _) (.int .i64 (k : Int))
      have hbz : w.heap.size + 1 ≤ (wr.setCell ⟨w.heap.size, 4, none⟩ (.int .i64 (k : Int))).heap.size := by simp; omega
      have HLEN := Lib.hid (show (L ++ allPre [x0, x1, x2, x3] 2 u.toNat k).length + (Venn.allG 2 (u - (k : Int)).toNat).length ≤ 100000 by
        have h1 := HLE.out (u.toNat - k) (k + 1)
        rw [allPre_succ, show k + 1 + (u.toNat - k) = u.toNat + 1 by omega, HALL.out] at h1
        have h2 := HL0.out
        rw [show (u - (k : Int)).toNat = u.toNat - k by omega]
        simp only [List.length_append, List.length_map] at h1 ⊢
        omega)
      have HEQ := Lib.hid (show (L ++ allPre [x0, x1, x2, x3] 2 u.toNat k) ++ (Venn.allG 2 (u - (k : Int)).toNat).map ([x0, x1, x2, x3, (k : Int)] ++ ·) = L ++ allPre [x0, x1, x2, x3] 2 u.toNat (k + 1) by
        rw [allPre_succ, show (u - (k : Int)).toNat = u.toNat - k by omega, List.append_assoc]
        rfl)
      have hwr1 : IntKind.i64.wrap (u - (k : Int)) = u - (k : Int) := wrap_of (by omega) (by omega)
      go_upto_region 8 with (fail)
      clear hB hbl hfz hcl hG1 hO1 hbut
      revert B1 G1 O1 hb1 hbz
      generalize World.setCell _ _ _ = W1
      intro B1 G1 O1 hb1 hbz
      have HV1 := Lib.hid hv1
      have HB1 := Lib.hid hb1
      have HBZ := Lib.hid hbz
      have HNE := Lib.hid hne1
      have HOB := Lib.hid hob
      replace B1 : Blk W1 w.heap.size 77 #[.int .i64 x0, .int .i64 x1, .int .i64 x2, .int .i64 x3, .int .i64 (k : Int), .int .i64 x5, .int .i64 x6, .int .i64 x7] := by simpa using B1
      obtain ⟨d0, d1, d2, d3, d4, d5, d6, d7⟩ := B1.cells8.1
      have bl := B1.lt
      clear hv1 hb1 hbz hne1 hob
      go_wp2_with fail
      refine (ref_all_5 (u - (k : Int)) x0 x1 x2 x3 (k : Int) x5 x6 x7 W1 go _ _ (by omega) G1 O1 HLEN.out).mono ?_
      rintro e w2 ⟨rfl, hP⟩
      rw [HEQ.out] at hP
      have hB2 := B1.but hP.but (fun h => by
        rcases h with h | h
        · omega
        · exact HNE.out _ h rfl)
      go_wp2
      go_roundw
      case rel => exact ⟨k + 1, (k : Int), by omega, by go_num, hB2, AllInv.step HV1.out HBZ.out HB1.out hP⟩
      case measure => simp [intOf]; omega
    · obtain rfl : k = u.toNat + 1 := by omega
      rw [HALL.out] at hI
      go_wp2
      exact bodyPost_end (results_none rfl _ _ _) rfl ⟨rfl, hI.end_⟩
set_option maxHeartbeats 4000000 in
set_option maxRecDepth 100000 in
theorem ref_all_3 (u : Int) (x0 x1 x2 x3 x4 x5 x6 x7 : Int) (w : World) (go : Nat) (v : Value) (L : List (List Int)) (hu : 0 ≤ u ∧ u ≤ 6) (hG : Blk w go 80 #[v]) (hown : w.ownsRow (go + 1) 77 8 v L.length (flat8 L)) (hlen : L.length + (Venn.allG 4 u.toNat).length ≤ 100000) :
    Calls Tryd.prog 88 #[.int .i64 u, .int .i64 3, .agg #[.int .i64 x0, .int .i64 x1, .int .i64 x2, .int .i64 x3, .int .i64 x4, .int .i64 x5, .int .i64 x6, .int .i64 x7], .pointer (some ⟨go, 0, none⟩)] w (fun e w' => e = .returned (.tuple #[]) ∧ AllPost go w v (L ++ (Venn.allG 4 u.toNat).map ([x0, x1, x2] ++ ·)) w') := by
  obtain ⟨VA, vc, rfl⟩ := ownsRow_slice hown
  have hgl := hG.lt
  have hob := hown.lt
  have HL0 := Lib.hid hlen
  have HG := Lib.hid hG
  have HO := Lib.hid hown
  have HALL := Lib.hid (show allPre [x0, x1, x2] 3 u.toNat (u.toNat + 1) = (Venn.allG 4 u.toNat).map ([x0, x1, x2] ++ ·) from allPre_all [x0, x1, x2] 3 u.toNat)
  have HLE := Lib.hid (allPre_len [x0, x1, x2] 3 u.toNat)
  clear hlen hG hown
  go_enter Tryd.func88, Tryd.ntmps88
  go_wp2
  go_loopw [8] (fun i wr => ∃ (k : Nat) (y : Int), k ≤ u.toNat + 1 ∧ i = .int .i64 k ∧ Blk wr w.heap.size 77 #[.int .i64 x0, .int .i64 x1, .int .i64 x2, .int .i64 y, .int .i64 x4, .int .i64 x5, .int .i64 x6, .int .i64 x7] ∧ AllInv go w (.slice VA L.length vc) (L ++ allPre [x0, x1, x2] 3 u.toNat k) wr)
    (fun i _ => u.toNat + 1 - (intOf i).toNat)
  case atStart => exact ⟨0, x3, by omega, rfl, Blk.new _ _ _, by simpa [allPre] using AllInv.start HG.out HO.out _⟩
  case round =>
    obtain ⟨k, y, hk, rfl, hB, hI⟩ := hrel
    by_cases hlt : (k : Int) ≤ u
    · obtain ⟨⟨v1, hG1, hO1, hv1⟩, hbut⟩ := hI
      obtain ⟨V1, c1', rfl⟩ := ownsRow_slice hO1
      have hlb := hO1.lt
      have hne : ¬ go = w.heap.size := by omega
      have hne1 : ∀ b, (Value.slice V1 (L ++ allPre [x0, x1, x2] 3 u.toNat k).length c1').ownBlock = some b → ¬ b = w.heap.size := fun b hb e => by
        rcases hv1 b hb with h | h
        · have := (hob b h).2; omega
        · omega
      have hbl := hB.lt
      have hfz := hB.frozen 3
      have hcl := hB.cell 3
      have B1 := hB.set_ 3 (.int .i64 (k : Int))
      have G1 := hG1.far (p := ⟨w.heap.size, 3, none⟩) hne (.int .i64 (k : Int))
      have O1 := own_but (C := fun b => b = w.heap.size) hO1 ((But.refl (fun b => b = w.heap.size) wr).set_ (p := ⟨w.heap.size, 3, none⟩) rfl (.int .i64 (k : Int))) hne1
      have hb1 := But.setNew (p := ⟨w.heap.size, 3, none⟩) hbut (Nat.le_refl _) (.int .i64 (k : Int))
      have hbz : w.heap.size + 1 ≤ (wr.setCell ⟨w.heap.size, 3, none⟩ (.int .i64 (k : Int))).heap.size := by simp; omega
      have HLEN := Lib.hid (show (L ++ allPre [x0, x1, x2] 3 u.toNat k).length + (Venn.allG 3 (u - (k : Int)).toNat).length ≤ 100000 by
        have h1 := HLE.out (u.toNat - k) (k + 1)
        rw [allPre_succ, show k + 1 + (u.toNat - k) = u.toNat + 1 by omega, HALL.out] at h1
        have h2 := HL0.out
        rw [show (u - (k : Int)).toNat = u.toNat - k by omega]
        simp only [List.length_append, List.length_map] at h1 ⊢
        omega)
      have HEQ := Lib.hid (show (L ++ allPre [x0, x1, x2] 3 u.toNat k) ++ (Venn.allG 3 (u - (k : Int)).toNat).map ([x0, x1, x2, (k : Int)] ++ ·) = L ++ allPre [x0, x1, x2] 3 u.toNat (k + 1) by
        rw [allPre_succ, show (u - (k : Int)).toNat = u.toNat - k by omega, List.append_assoc]
        rfl)
      have hwr1 : IntKind.i64.wrap (u - (k : Int)) = u - (k : Int) := wrap_of (by omega) (by omega)
      go_upto_region 8 with (fail)
      clear hB hbl hfz hcl hG1 hO1 hbut
      revert B1 G1 O1 hb1 hbz
      generalize World.setCell _ _ _ = W1
      intro B1 G1 O1 hb1 hbz
      have HV1 := Lib.hid hv1
      have HB1 := Lib.hid hb1
      have HBZ := Lib.hid hbz
      have HNE := Lib.hid hne1
      have HOB := Lib.hid hob
      replace B1 : Blk W1 w.heap.size 77 #[.int .i64 x0, .int .i64 x1, .int .i64 x2, .int .i64 (k : Int), .int .i64 x4, .int .i64 x5, .int .i64 x6, .int .i64 x7] := by simpa using B1
      obtain ⟨d0, d1, d2, d3, d4, d5, d6, d7⟩ := B1.cells8.1
      have bl := B1.lt
      clear hv1 hb1 hbz hne1 hob
      go_wp2_with fail
      refine (ref_all_4 (u - (k : Int)) x0 x1 x2 (k : Int) x4 x5 x6 x7 W1 go _ _ (by omega) G1 O1 HLEN.out).mono ?_
      rintro e w2 ⟨rfl, hP⟩
      rw [HEQ.out] at hP
      have hB2 := B1.but hP.but (fun h => by
        rcases h with h | h
        · omega
        · exact HNE.out _ h rfl)
      go_wp2
      go_roundw
      case rel => exact ⟨k + 1, (k : Int), by omega, by go_num, hB2, AllInv.step HV1.out HBZ.out HB1.out hP⟩
      case measure => simp [intOf]; omega
    · obtain rfl : k = u.toNat + 1 := by omega
      rw [HALL.out] at hI
      go_wp2
      exact bodyPost_end (results_none rfl _ _ _) rfl ⟨rfl, hI.end_⟩
set_option maxHeartbeats 4000000 in
set_option maxRecDepth 100000 in
theorem ref_all_2 (u : Int) (x0 x1 x2 x3 x4 x5 x6 x7 : Int) (w : World) (go : Nat) (v : Value) (L : List (List Int)) (hu : 0 ≤ u ∧ u ≤ 6) (hG : Blk w go 80 #[v]) (hown : w.ownsRow (go + 1) 77 8 v L.length (flat8 L)) (hlen : L.length + (Venn.allG 5 u.toNat).length ≤ 100000) :
    Calls Tryd.prog 88 #[.int .i64 u, .int .i64 2, .agg #[.int .i64 x0, .int .i64 x1, .int .i64 x2, .int .i64 x3, .int .i64 x4, .int .i64 x5, .int .i64 x6, .int .i64 x7], .pointer (some ⟨go, 0, none⟩)] w (fun e w' => e = .returned (.tuple #[]) ∧ AllPost go w v (L ++ (Venn.allG 5 u.toNat).map ([x0, x1] ++ ·)) w') := by
  obtain ⟨VA, vc, rfl⟩ := ownsRow_slice hown
  have hgl := hG.lt
  have hob := hown.lt
  have HL0 := Lib.hid hlen
  have HG := Lib.hid hG
  have HO := Lib.hid hown
  have HALL := Lib.hid (show allPre [x0, x1] 4 u.toNat (u.toNat + 1) = (Venn.allG 5 u.toNat).map ([x0, x1] ++ ·) from allPre_all [x0, x1] 4 u.toNat)
  have HLE := Lib.hid (allPre_len [x0, x1] 4 u.toNat)
  clear hlen hG hown
  go_enter Tryd.func88, Tryd.ntmps88
  go_wp2
  go_loopw [8] (fun i wr => ∃ (k : Nat) (y : Int), k ≤ u.toNat + 1 ∧ i = .int .i64 k ∧ Blk wr w.heap.size 77 #[.int .i64 x0, .int .i64 x1, .int .i64 y, .int .i64 x3, .int .i64 x4, .int .i64 x5, .int .i64 x6, .int .i64 x7] ∧ AllInv go w (.slice VA L.length vc) (L ++ allPre [x0, x1] 4 u.toNat k) wr)
    (fun i _ => u.toNat + 1 - (intOf i).toNat)
  case atStart => exact ⟨0, x2, by omega, rfl, Blk.new _ _ _, by simpa [allPre] using AllInv.start HG.out HO.out _⟩
  case round =>
    obtain ⟨k, y, hk, rfl, hB, hI⟩ := hrel
    by_cases hlt : (k : Int) ≤ u
    · obtain ⟨⟨v1, hG1, hO1, hv1⟩, hbut⟩ := hI
      obtain ⟨V1, c1', rfl⟩ := ownsRow_slice hO1
      have hlb := hO1.lt
      have hne : ¬ go = w.heap.size := by omega
      have hne1 : ∀ b, (Value.slice V1 (L ++ allPre [x0, x1] 4 u.toNat k).length c1').ownBlock = some b → ¬ b = w.heap.size := fun b hb e => by
        rcases hv1 b hb with h | h
        · have := (hob b h).2; omega
        · omega
      have hbl := hB.lt
      have hfz := hB.frozen 2
      have hcl := hB.cell 2
      have B1 := hB.set_ 2 (.int .i64 (k : Int))
      have G1 := hG1.far (p := ⟨w.heap.size, 2, none⟩) hne (.int .i64 (k : Int))
      have O1 := own_but (C := fun b => b = w.heap.size) hO1 ((But.refl (fun b => b = w.heap.size) wr).set_ (p := ⟨w.heap.size, 2, none⟩) rfl (.int .i64 (k : Int))) hne1
      have hb1 := But.setNew (p := ⟨w.heap.size, 2, none⟩) hbut (Nat.le_refl _) (.int .i64 (k : Int))
      have hbz : w.heap.size + 1 ≤ (wr.setCell ⟨w.heap.size, 2, none⟩ (.int .i64 (k : Int))).heap.size := by simp; omega
      have HLEN := Lib.hid (show (L ++ allPre [x0, x1] 4 u.toNat k).length + (Venn.allG 4 (u - (k : Int)).toNat).length ≤ 100000 by
        have h1 := HLE.out (u.toNat - k) (k + 1)
        rw [allPre_succ, show k + 1 + (u.toNat - k) = u.toNat + 1 by omega, HALL.out] at h1
        have h2 := HL0.out
        rw [show (u - (k : Int)).toNat = u.toNat - k by omega]
        simp only [List.length_append, List.length_map] at h1 ⊢
        omega)
      have HEQ := Lib.hid (show (L ++ allPre [x0, x1] 4 u.toNat k) ++ (Venn.allG 4 (u - (k : Int)).toNat).map ([x0, x1, (k : Int)] ++ ·) = L ++ allPre [x0, x1] 4 u.toNat (k + 1) by
        rw [allPre_succ, show (u - (k : Int)).toNat = u.toNat - k by omega, List.append_assoc]
        rfl)
      have hwr1 : IntKind.i64.wrap (u - (k : Int)) = u - (k : Int) := wrap_of (by omega) (by omega)
      go_upto_region 8 with (fail)
      clear hB hbl hfz hcl hG1 hO1 hbut
      revert B1 G1 O1 hb1 hbz
      generalize World.setCell _ _ _ = W1
      intro B1 G1 O1 hb1 hbz
      have HV1 := Lib.hid hv1
      have HB1 := Lib.hid hb1
      have HBZ := Lib.hid hbz
      have HNE := Lib.hid hne1
      have HOB := Lib.hid hob
      replace B1 : Blk W1 w.heap.size 77 #[.int .i64 x0, .int .i64 x1, .int .i64 (k : Int), .int .i64 x3, .int .i64 x4, .int .i64 x5, .int .i64 x6, .int .i64 x7] := by simpa using B1
      obtain ⟨d0, d1, d2, d3, d4, d5, d6, d7⟩ := B1.cells8.1
      have bl := B1.lt
      clear hv1 hb1 hbz hne1 hob
      go_wp2_with fail
      refine (ref_all_3 (u - (k : Int)) x0 x1 (k : Int) x3 x4 x5 x6 x7 W1 go _ _ (by omega) G1 O1 HLEN.out).mono ?_
      rintro e w2 ⟨rfl, hP⟩
      rw [HEQ.out] at hP
      have hB2 := B1.but hP.but (fun h => by
        rcases h with h | h
        · omega
        · exact HNE.out _ h rfl)
      go_wp2
      go_roundw
      case rel => exact ⟨k + 1, (k : Int), by omega, by go_num, hB2, AllInv.step HV1.out HBZ.out HB1.out hP⟩
      case measure => simp [intOf]; omega
    · obtain rfl : k = u.toNat + 1 := by omega
      rw [HALL.out] at hI
      go_wp2
      exact bodyPost_end (results_none rfl _ _ _) rfl ⟨rfl, hI.end_⟩
set_option maxHeartbeats 4000000 in
set_option maxRecDepth 100000 in
theorem ref_all_1 (u : Int) (x0 x1 x2 x3 x4 x5 x6 x7 : Int) (w : World) (go : Nat) (v : Value) (L : List (List Int)) (hu : 0 ≤ u ∧ u ≤ 6) (hG : Blk w go 80 #[v]) (hown : w.ownsRow (go + 1) 77 8 v L.length (flat8 L)) (hlen : L.length + (Venn.allG 6 u.toNat).length ≤ 100000) :
    Calls Tryd.prog 88 #[.int .i64 u, .int .i64 1, .agg #[.int .i64 x0, .int .i64 x1, .int .i64 x2, .int .i64 x3, .int .i64 x4, .int .i64 x5, .int .i64 x6, .int .i64 x7], .pointer (some ⟨go, 0, none⟩)] w (fun e w' => e = .returned (.tuple #[]) ∧ AllPost go w v (L ++ (Venn.allG 6 u.toNat).map ([x0] ++ ·)) w') := by
  obtain ⟨VA, vc, rfl⟩ := ownsRow_slice hown
  have hgl := hG.lt
  have hob := hown.lt
  have HL0 := Lib.hid hlen
  have HG := Lib.hid hG
  have HO := Lib.hid hown
  have HALL := Lib.hid (show allPre [x0] 5 u.toNat (u.toNat + 1) = (Venn.allG 6 u.toNat).map ([x0] ++ ·) from allPre_all [x0] 5 u.toNat)
  have HLE := Lib.hid (allPre_len [x0] 5 u.toNat)
  clear hlen hG hown
  go_enter Tryd.func88, Tryd.ntmps88
  go_wp2
  go_loopw [8] (fun i wr => ∃ (k : Nat) (y : Int), k ≤ u.toNat + 1 ∧ i = .int .i64 k ∧ Blk wr w.heap.size 77 #[.int .i64 x0, .int .i64 y, .int .i64 x2, .int .i64 x3, .int .i64 x4, .int .i64 x5, .int .i64 x6, .int .i64 x7] ∧ AllInv go w (.slice VA L.length vc) (L ++ allPre [x0] 5 u.toNat k) wr)
    (fun i _ => u.toNat + 1 - (intOf i).toNat)
  case atStart => exact ⟨0, x1, by omega, rfl, Blk.new _ _ _, by simpa [allPre] using AllInv.start HG.out HO.out _⟩
  case round =>
    obtain ⟨k, y, hk, rfl, hB, hI⟩ := hrel
    by_cases hlt : (k : Int) ≤ u
    · obtain ⟨⟨v1, hG1, hO1, hv1⟩, hbut⟩ := hI
      obtain ⟨V1, c1', rfl⟩ := ownsRow_slice hO1
      have hlb := hO1.lt
      have hne : ¬ go = w.heap.size := by omega
      have hne1 : ∀ b, (Value.slice V1 (L ++ allPre [x0] 5 u.toNat k).length c1').ownBlock = some b → ¬ b = w.heap.size := fun b hb e => by
        rcases hv1 b hb with h | h
        · have := (hob b h).2; omega
        · omega
      have hbl := hB.lt
      have hfz := hB.frozen 1
      have hcl := hB.cell 1
      have B1 := hB.set_ 1 (.int .i64 (k : Int))
      have G1 := hG1.far (p := ⟨w.heap.size, 1, none⟩) hne (.int .i64 (k : Int))
      have O1 := own_but (C := fun b => b = w.heap.size) hO1 ((But.refl (fun b => b = w.heap.size) wr).set_ (p := ⟨w.heap.size, 1, none⟩) rfl (.int .i64 (k : Int))) hne1
      have hb1 := But.setNew (p := ⟨w.heap.size, 1, none⟩) hbut (Nat.le_refl _) (.int .i64 (k : Int))
      have hbz : w.heap.size + 1 ≤ (wr.setCell ⟨w.heap.size, 1, none⟩ (.int .i64 (k : Int))).heap.size := by simp; omega
      have HLEN := Lib.hid (show (L ++ allPre [x0] 5 u.toNat k).length + (Venn.allG 5 (u - (k : Int)).toNat).length ≤ 100000 by
        have h1 := HLE.out (u.toNat - k) (k + 1)
        rw [allPre_succ, show k + 1 + (u.toNat - k) = u.toNat + 1 by omega, HALL.out] at h1
        have h2 := HL0.out
        rw [show (u - (k : Int)).toNat = u.toNat - k by omega]
        simp only [List.length_append, List.length_map] at h1 ⊢
        omega)
      have HEQ := Lib.hid (show (L ++ allPre [x0] 5 u.toNat k) ++ (Venn.allG 5 (u - (k : Int)).toNat).map ([x0, (k : Int)] ++ ·) = L ++ allPre [x0] 5 u.toNat (k + 1) by
        rw [allPre_succ, show (u - (k : Int)).toNat = u.toNat - k by omega, List.append_assoc]
        rfl)
      have hwr1 : IntKind.i64.wrap (u - (k : Int)) = u - (k : Int) := wrap_of (by omega) (by omega)
      go_upto_region 8 with (fail)
      clear hB hbl hfz hcl hG1 hO1 hbut
      revert B1 G1 O1 hb1 hbz
      generalize World.setCell _ _ _ = W1
      intro B1 G1 O1 hb1 hbz
      have HV1 := Lib.hid hv1
      have HB1 := Lib.hid hb1
      have HBZ := Lib.hid hbz
      have HNE := Lib.hid hne1
      have HOB := Lib.hid hob
      replace B1 : Blk W1 w.heap.size 77 #[.int .i64 x0, .int .i64 (k : Int), .int .i64 x2, .int .i64 x3, .int .i64 x4, .int .i64 x5, .int .i64 x6, .int .i64 x7] := by simpa using B1
      obtain ⟨d0, d1, d2, d3, d4, d5, d6, d7⟩ := B1.cells8.1
      have bl := B1.lt
      clear hv1 hb1 hbz hne1 hob
      go_wp2_with fail
      refine (ref_all_2 (u - (k : Int)) x0 (k : Int) x2 x3 x4 x5 x6 x7 W1 go _ _ (by omega) G1 O1 HLEN.out).mono ?_
      rintro e w2 ⟨rfl, hP⟩
      rw [HEQ.out] at hP
      have hB2 := B1.but hP.but (fun h => by
        rcases h with h | h
        · omega
        · exact HNE.out _ h rfl)
      go_wp2
      go_roundw
      case rel => exact ⟨k + 1, (k : Int), by omega, by go_num, hB2, AllInv.step HV1.out HBZ.out HB1.out hP⟩
      case measure => simp [intOf]; omega
    · obtain rfl : k = u.toNat + 1 := by omega
      rw [HALL.out] at hI
      go_wp2
      exact bodyPost_end (results_none rfl _ _ _) rfl ⟨rfl, hI.end_⟩
set_option maxHeartbeats 4000000 in
set_option maxRecDepth 100000 in
theorem ref_all_0 (u : Int) (x0 x1 x2 x3 x4 x5 x6 x7 : Int) (w : World) (go : Nat) (v : Value) (L : List (List Int)) (hu : 0 ≤ u ∧ u ≤ 6) (hG : Blk w go 80 #[v]) (hown : w.ownsRow (go + 1) 77 8 v L.length (flat8 L)) (hlen : L.length + (Venn.allG 7 u.toNat).length ≤ 100000) :
    Calls Tryd.prog 88 #[.int .i64 u, .int .i64 0, .agg #[.int .i64 x0, .int .i64 x1, .int .i64 x2, .int .i64 x3, .int .i64 x4, .int .i64 x5, .int .i64 x6, .int .i64 x7], .pointer (some ⟨go, 0, none⟩)] w (fun e w' => e = .returned (.tuple #[]) ∧ AllPost go w v (L ++ (Venn.allG 7 u.toNat).map ([] ++ ·)) w') := by
  obtain ⟨VA, vc, rfl⟩ := ownsRow_slice hown
  have hgl := hG.lt
  have hob := hown.lt
  have HL0 := Lib.hid hlen
  have HG := Lib.hid hG
  have HO := Lib.hid hown
  have HALL := Lib.hid (show allPre [] 6 u.toNat (u.toNat + 1) = (Venn.allG 7 u.toNat).map ([] ++ ·) from allPre_all [] 6 u.toNat)
  have HLE := Lib.hid (allPre_len [] 6 u.toNat)
  clear hlen hG hown
  go_enter Tryd.func88, Tryd.ntmps88
  go_wp2
  go_loopw [8] (fun i wr => ∃ (k : Nat) (y : Int), k ≤ u.toNat + 1 ∧ i = .int .i64 k ∧ Blk wr w.heap.size 77 #[.int .i64 y, .int .i64 x1, .int .i64 x2, .int .i64 x3, .int .i64 x4, .int .i64 x5, .int .i64 x6, .int .i64 x7] ∧ AllInv go w (.slice VA L.length vc) (L ++ allPre [] 6 u.toNat k) wr)
    (fun i _ => u.toNat + 1 - (intOf i).toNat)
  case atStart => exact ⟨0, x0, by omega, rfl, Blk.new _ _ _, by simpa [allPre] using AllInv.start HG.out HO.out _⟩
  case round =>
    obtain ⟨k, y, hk, rfl, hB, hI⟩ := hrel
    by_cases hlt : (k : Int) ≤ u
    · obtain ⟨⟨v1, hG1, hO1, hv1⟩, hbut⟩ := hI
      obtain ⟨V1, c1', rfl⟩ := ownsRow_slice hO1
      have hlb := hO1.lt
      have hne : ¬ go = w.heap.size := by omega
      have hne1 : ∀ b, (Value.slice V1 (L ++ allPre [] 6 u.toNat k).length c1').ownBlock = some b → ¬ b = w.heap.size := fun b hb e => by
        rcases hv1 b hb with h | h
        · have := (hob b h).2; omega
        · omega
      have hbl := hB.lt
      have hfz := hB.frozen 0
      have hcl := hB.cell 0
      have B1 := hB.set_ 0 (.int .i64 (k : Int))
      have G1 := hG1.far (p := ⟨w.heap.size, 0, none⟩) hne (.int .i64 (k : Int))
      have O1 := own_but (C := fun b => b = w.heap.size) hO1 ((But.refl (fun b => b = w.heap.size) wr).set_ (p := ⟨w.heap.size, 0, none⟩) rfl (.int .i64 (k : Int))) hne1
      have hb1 := But.setNew (p := ⟨w.heap.size, 0, none⟩) hbut (Nat.le_refl _) (.int .i64 (k : Int))
      have hbz : w.heap.size + 1 ≤ (wr.setCell ⟨w.heap.size, 0, none⟩ (.int .i64 (k : Int))).heap.size := by simp; omega
      have HLEN := Lib.hid (show (L ++ allPre [] 6 u.toNat k).length + (Venn.allG 6 (u - (k : Int)).toNat).length ≤ 100000 by
        have h1 := HLE.out (u.toNat - k) (k + 1)
        rw [allPre_succ, show k + 1 + (u.toNat - k) = u.toNat + 1 by omega, HALL.out] at h1
        have h2 := HL0.out
        rw [show (u - (k : Int)).toNat = u.toNat - k by omega]
        simp only [List.length_append, List.length_map] at h1 ⊢
        omega)
      have HEQ := Lib.hid (show (L ++ allPre [] 6 u.toNat k) ++ (Venn.allG 6 (u - (k : Int)).toNat).map ([(k : Int)] ++ ·) = L ++ allPre [] 6 u.toNat (k + 1) by
        rw [allPre_succ, show (u - (k : Int)).toNat = u.toNat - k by omega, List.append_assoc]
        rfl)
      have hwr1 : IntKind.i64.wrap (u - (k : Int)) = u - (k : Int) := wrap_of (by omega) (by omega)
      go_upto_region 8 with (fail)
      clear hB hbl hfz hcl hG1 hO1 hbut
      revert B1 G1 O1 hb1 hbz
      generalize World.setCell _ _ _ = W1
      intro B1 G1 O1 hb1 hbz
      have HV1 := Lib.hid hv1
      have HB1 := Lib.hid hb1
      have HBZ := Lib.hid hbz
      have HNE := Lib.hid hne1
      have HOB := Lib.hid hob
      replace B1 : Blk W1 w.heap.size 77 #[.int .i64 (k : Int), .int .i64 x1, .int .i64 x2, .int .i64 x3, .int .i64 x4, .int .i64 x5, .int .i64 x6, .int .i64 x7] := by simpa using B1
      obtain ⟨d0, d1, d2, d3, d4, d5, d6, d7⟩ := B1.cells8.1
      have bl := B1.lt
      clear hv1 hb1 hbz hne1 hob
      go_wp2_with fail
      refine (ref_all_1 (u - (k : Int)) (k : Int) x1 x2 x3 x4 x5 x6 x7 W1 go _ _ (by omega) G1 O1 HLEN.out).mono ?_
      rintro e w2 ⟨rfl, hP⟩
      rw [HEQ.out] at hP
      have hB2 := B1.but hP.but (fun h => by
        rcases h with h | h
        · omega
        · exact HNE.out _ h rfl)
      go_wp2
      go_roundw
      case rel => exact ⟨k + 1, (k : Int), by omega, by go_num, hB2, AllInv.step HV1.out HBZ.out HB1.out hP⟩
      case measure => simp [intOf]; omega
    · obtain rfl : k = u.toNat + 1 := by omega
      rw [HALL.out] at hI
      go_wp2
      exact bodyPost_end (results_none rfl _ _ _) rfl ⟨rfl, by simpa using hI.end_⟩
theorem allG_len : ∀ u : Fin 7, (Venn.allG 7 u.val).length ≤ 100000 := by decide +kernel
theorem allC_len {u : Int} (hu : 0 ≤ u ∧ u ≤ 6) : (Venn.allG 7 u.toNat).length ≤ 100000 := allG_len ⟨u.toNat, by omega⟩
set_option maxHeartbeats 4000000 in
set_option maxRecDepth 100000 in
/-- The reference's All: every list of counts of the sum u, in its own new row. -/
theorem ref_All (u : Int) (w : World) (hu : 0 ≤ u ∧ u ≤ 6) :
    Calls Tryd.prog 46 #[.int .i64 u] w (fun e w' => ∃ v, e = .returned v ∧ Below w.heap.size w w' ∧ w'.ownsRow (w.heap.size + 1) 77 8 v (Venn.allC u).length (flat8 (Venn.allC u))) := by
  have HLEN := Lib.hid (show ([] : List (List Int)).length + (Venn.allG 7 u.toNat).length ≤ 100000 by simpa using allC_len hu)
  have HEQ := Lib.hid (show ([] : List (List Int)) ++ (Venn.allG 7 u.toNat).map (([] : List Int) ++ ·) = Venn.allC u by simp [Venn.allC])
  generalize Venn.allC u = LL at HEQ ⊢
  go_enter Tryd.func46, Tryd.ntmps46
  go_wp2_with fail
  refine (ref_all_0 u 0 0 0 0 0 0 0 0 _ w.heap.size (.slice none 0 0) [] hu ((Blk.new w 80 #[.slice none 0 0]).alloc _) (World.ownsRow_nil _ _ _ _) HLEN.out).mono ?_
  rintro e w1 ⟨rfl, ⟨v1, G1, O1, _⟩, hb⟩
  rw [HEQ.out] at O1
  obtain ⟨V1, c1, rfl⟩ := ownsRow_slice O1
  have hb1 := (((But.refl _ w).alloc _).alloc _).trans hb
  have hb2 := hb1.below (B := w.heap.size) (Nat.le_refl _) (fun b hc => by
    rcases hc with rfl | hc
    · exact Nat.le_refl _
    · cases hc)
  have c0 := G1.cell 0
  clear hb hb1 G1
  go_wp2
  go_ret
  exact ⟨_, rfl, hb2, O1⟩
end Go.Proofs.YtcecbpbpknphjaaDoor

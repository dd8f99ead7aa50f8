/-
  THE WALK of the reference's all and All: every list of eight counts of one sum.
  THE WALKS of the reference's Made and Lies.
  FORMULAS BY VALUE: a slice of formulas as its cells; append of formulas; the walk of slices.Clone at formulas.
  THE PLAIN SIDE of the reference's Ways, Span, and of the least set found from above.
  THE WALKS of the reference's Worlds, So, Open, Forms, Answer, Ask.
-/
import Derived.Test.YtjnjgcibhjdmdaaGreatDoorRowG
import Derived.Test.YtjnjgcibhjdmdaaGreatDoorFitG
import Derived.Test.YtjnjgcibhjdmdaaGreatDoorOwnG
import Derived.Test.YtjnjgcibhjdmdaaGreatDoorFormG
import Derived.Test.YtjnjgcibhjdmdaaGreatDoorCloneF
import Derived.Test.YtjnjgcibhjdmdaaGreatDoorVennP2
import Derived.Deep.AppendLies
import Derived.Test.YtjnjgcibhjdmdaaGreatDoorRefG
import Derived.StillTailTactics
import Derived.Test.YtjnjgcibhjdmdaaGreatDoorSpanG
namespace Go.Proofs.YtjnjgcibhjdmdaaGreatDoor
open Go.RowKit

abbrev flat8 (l : List (List Int)) : List Value := l.flatMap fun r => r.map (Value.int .i64)
theorem counts_info : (Tryz.prog.info? 75).map (fun i => (i.zero, i.size, i.bytes)) = some (some (.agg zero8), 8, 64) := by kernel_rfl
/-- What all leaves: the lists L in the row at its out; the rest as it lay. -/
structure AllRPost (go : Nat) (w : World) (v : Value) (L : List (List Int)) (w' : World) : Prop where
  out : ∃ v', Blk w' go 117 #[v'] ∧ w'.ownsRow (go + 1) 75 8 v' L.length (flat8 L) ∧ ∀ b, v'.ownBlock = some b → v.ownBlock = some b ∨ w.heap.size ≤ b
  but : But (fun b => b = go ∨ v.ownBlock = some b) w w'
theorem AllRPost.leaf {w W w1 : World} {go gg cap : Nat} {v v0 : Value} {L : List (List Int)} {r : List Int} {o : Obj} (hB0 : But (fun b => b = go ∨ v.ownBlock = some b) w W) (GG : Blk w1 go 117 #[v0])
    (hown1 : w1.ownsRow (go + 1) 75 8 (.slice (some ⟨gg, 0, none⟩) (L.length + 1) cap) (L.length + 1) (flat8 L ++ r.map (Value.int .i64))) (hgrow : (W.alloc o).drew.grownBy w1 v.ownBlock) (hat : v.ownBlock = some gg ∨ gg = W.heap.size + 1) :
    AllRPost go w v (L ++ [r]) (w1.setCell ⟨go, 0, none⟩ (.slice (some ⟨gg, 0, none⟩) (L.length + 1) cap)) := by
  have hgg := (hown1.lt gg rfl).1
  refine ⟨⟨.slice (some ⟨gg, 0, none⟩) (L.length + 1) cap, ?_, ?_, ?_⟩, ?_⟩
  · have := GG.set_ 0 (.slice (some ⟨gg, 0, none⟩) (L.length + 1) cap)
    simpa using this
  · have h := own_but (C := fun b => b = go) hown1 ((But.refl (fun b => b = go) w1).set_ (p := ⟨go, 0, none⟩) rfl (.slice (some ⟨gg, 0, none⟩) (L.length + 1) cap)) (fun b hb e => by have h2 := (hown1.lt b hb).1; omega)
    rw [show (L ++ [r]).length = L.length + 1 by simp, show flat8 (L ++ [r]) = flat8 L ++ r.map (Value.int .i64) by simp [flat8]]
    exact h
  · intro b hb
    have hb : gg = b := by simpa [Value.ownBlock] using hb
    subst hb
    rcases hat with h | h
    · exact .inl h
    · exact .inr (by have := hB0.size; omega)
  · exact (((hB0.alloc o).drew).trans ((But.of_grown hgrow).wide (fun b h => .inr h))).set_ (p := ⟨go, 0, none⟩) (.inl rfl) _

set_option maxHeartbeats 4000000 in
set_option maxRecDepth 100000 in
theorem ref_all_7 (u : Int) (x0 x1 x2 x3 x4 x5 x6 x7 : Int) (w : World) (go : Nat) (v : Value) (L : List (List Int)) (hu : 0 ≤ u ∧ u ≤ 6) (hG : Blk w go 117 #[v]) (hown : w.ownsRow (go + 1) 75 8 v L.length (flat8 L)) (hlen : L.length + (Venn.allG 0 u.toNat).length ≤ 100000) :
    Calls Tryz.prog 100 #[.int .i64 u, .int .i64 7, .agg #[.int .i64 x0, .int .i64 x1, .int .i64 x2, .int .i64 x3, .int .i64 x4, .int .i64 x5, .int .i64 x6, .int .i64 x7], .pointer (some ⟨go, 0, none⟩)] w (fun e w' => e = .returned (.tuple #[]) ∧ AllRPost go w v (L ++ (Venn.allG 0 u.toNat).map ([x0, x1, x2, x3, x4, x5, x6] ++ ·)) w') := by
  obtain ⟨VA, vc, rfl⟩ := ownsRow_slice hown
  have hgl := hG.lt
  have hL := Lib.hid (show L ++ (Venn.allG 0 u.toNat).map ([x0, x1, x2, x3, x4, x5, x6] ++ ·) = L ++ [[x0, x1, x2, x3, x4, x5, x6, u]] by simp [Venn.allG]; omega)
  rw [hL.out]
  obtain ⟨i0, hi0, hz0, hz1, hz2⟩ := info_parts counts_info
  simp only [Venn.allG, List.length_cons, List.length_nil] at hlen
  go_enter Tryz.func100, Tryz.ntmps100
  go_wp2_with fail
  have G0 := hG.alloc (.cells #[.int .i64 x0, .int .i64 x1, .int .i64 x2, .int .i64 x3, .int .i64 x4, .int .i64 x5, .int .i64 x6, .int .i64 u] 75)
  have B0 := Blk.new w 75 #[.int .i64 x0, .int .i64 x1, .int .i64 x2, .int .i64 x3, .int .i64 x4, .int .i64 x5, .int .i64 x6, .int .i64 u]
  have O0 := hown.alloc (.cells #[.int .i64 x0, .int .i64 x1, .int .i64 x2, .int .i64 x3, .int .i64 x4, .int .i64 x5, .int .i64 x6, .int .i64 u] 75)
  have hB0 : But (fun b => b = go ∨ (Value.slice VA L.length vc).ownBlock = some b) w (w.alloc (.cells #[.int .i64 x0, .int .i64 x1, .int .i64 x2, .int .i64 x3, .int .i64 x4, .int .i64 x5, .int .i64 x6, .int .i64 u] 75)) := (But.refl _ _).alloc _
  have hne : ¬ go = w.heap.size := by omega
  have hne2 : ¬ w.heap.size = go := by omega
  have hob : ∀ b, (Value.slice VA L.length vc).ownBlock = some b → go + 1 ≤ b ∧ b < w.heap.size := hown.lt
  clear hG hown
  have hsz : (w.alloc (.cells #[.int .i64 x0, .int .i64 x1, .int .i64 x2, .int .i64 x3, .int .i64 x4, .int .i64 x5, .int .i64 x6, .int .i64 u] 75)).heap.size = w.heap.size + 1 := by simp
  revert G0 B0 O0 hB0 hsz
  generalize World.alloc _ _ = W
  intro G0 B0 O0 hB0 hsz
  have HSZ := Lib.hid hsz
  clear hsz
  have c0 := G0.cell 0
  have f0 := G0.frozen 0
  have gl := G0.lt
  have bl := B0.lt
  obtain ⟨d0, d1, d2, d3, d4, d5, d6, d7⟩ := B0.cells8.1
  go_region_law (refine step_append_lies _ (by rfl) _ _ _ (by rfl) (go + 1) 75 i0 _ 8 64 Tryz.underlying117 hi0 hz0 hz1 hz2 rfl (by omega) (.slice VA L.length vc) L.length (flat8 L) (by rfl) ((O0.alloc _).drew) ⟨W.heap.size, 0, none⟩ 1 1 [.int .i64 x0, .int .i64 x1, .int .i64 x2, .int .i64 x3, .int .i64 x4, .int .i64 x5, .int .i64 x6, .int .i64 u] (by rfl) (by rfl) (World.news_of_block (cs := #[.int .i64 x0, .int .i64 x1, .int .i64 x2, .int .i64 x3, .int .i64 x4, .int .i64 x5, .int .i64 x6, .int .i64 u]) (t := 75) (fr := (0, 0)) (heap_alloc_new W _)) (by simp [Value.oneCell']) (by omega) (by unfold maxLen; omega) (by omega) (by have := HSZ.out; simp; omega) (W.heap.size + 1) (by simp) ?_; intro gg cap w1 hown1 hgrow hat hlt2; have GG := ((G0.alloc (.cells #[.int .i64 x0, .int .i64 x1, .int .i64 x2, .int .i64 x3, .int .i64 x4, .int .i64 x5, .int .i64 x6, .int .i64 u] 75)).drew).grown (w' := w1) hgrow (fun h => by have := hob go h.symm; omega); have c1 := GG.cell 0; have f1 := GG.frozen 0; have gl1 := GG.lt)
  all_goals
    go_wp2
    exact bodyPost_ret (results_none rfl _ _ _) rfl ⟨rfl, AllRPost.leaf (r := [x0, x1, x2, x3, x4, x5, x6, u]) hB0 GG hown1 hgrow hat⟩
theorem But.narrow {C D : Nat → Prop} {w w' : World} (h : But D w w') (hcd : ∀ b, b < w.heap.size → D b → C b) : But C w w' := ⟨h.os, h.tape, h.output, h.size, fun k hk hc => h.block k hk (fun e => hc (hcd k hk e))⟩
theorem But.setNew {C : Nat → Prop} {X Y : World} (h : But C X Y) {p : Addr} (hp : X.heap.size ≤ p.block) (v : Value) : But C X (Y.setCell p v) :=
  ((h.wide (D := fun b => C b ∨ b = p.block) (fun _ h => .inl h)).set_ (p := p) (.inr rfl) v).narrow (fun _ hb h => by rcases h with h | h; exact h; omega)
/-- The lists whose field behind p is under k. -/
def allPre (p : List Int) (d u k : Nat) : List (List Int) := (List.range k).flatMap fun j => (Venn.allG d (u - j)).map fun x => p ++ ((j : Int) :: x)
theorem allPre_succ (p : List Int) (d u k : Nat) : allPre p d u (k + 1) = allPre p d u k ++ (Venn.allG d (u - k)).map ((p ++ [(k : Int)]) ++ ·) := by
  simp [allPre, List.range_succ, List.flatMap_append]
theorem allPre_all (p : List Int) (d u : Nat) : allPre p d u (u + 1) = (Venn.allG (d + 1) u).map (p ++ ·) := by
  simp only [allPre, Venn.allG, List.map_flatMap, List.map_map]
  rfl
theorem allPre_len (p : List Int) (d u : Nat) : ∀ m k : Nat, (allPre p d u k).length ≤ (allPre p d u (k + m)).length := by
  intro m
  induction m with
  | zero => intro k; exact Nat.le_refl _
  | succ m ih =>
    intro k
    refine Nat.le_trans (ih k) ?_
    rw [show k + (m + 1) = (k + m) + 1 by omega, allPre_succ, List.length_append]
    omega
/-- The loop's state of all. -/
structure AllInv (go : Nat) (w : World) (v : Value) (L : List (List Int)) (wr : World) : Prop where
  out : ∃ v', Blk wr go 117 #[v'] ∧ wr.ownsRow (go + 1) 75 8 v' L.length (flat8 L) ∧ ∀ b, v'.ownBlock = some b → v.ownBlock = some b ∨ w.heap.size + 1 ≤ b
  but : But (fun b => b = go ∨ v.ownBlock = some b) w wr
theorem AllInv.start {go : Nat} {w : World} {v : Value} {L : List (List Int)} (hG : Blk w go 117 #[v]) (hown : w.ownsRow (go + 1) 75 8 v L.length (flat8 L)) (o : Obj) : AllInv go w v L (w.alloc o) :=
  ⟨⟨v, hG.alloc o, hown.alloc o, fun _ hb => .inl hb⟩, (But.refl _ _).alloc o⟩
theorem AllInv.step {go : Nat} {w W1 w2 : World} {v v1 : Value} {L2 : List (List Int)} (hv1 : ∀ b, v1.ownBlock = some b → v.ownBlock = some b ∨ w.heap.size + 1 ≤ b) (hsz : w.heap.size + 1 ≤ W1.heap.size) (hbut : But (fun b => b = go ∨ v.ownBlock = some b) w W1) (hP : AllRPost go W1 v1 L2 w2) : AllInv go w v L2 w2 := by
  obtain ⟨⟨v2, hG2, hO2, hv2⟩, hb2⟩ := hP
  refine ⟨⟨v2, hG2, hO2, fun b hb => ?_⟩, ⟨hb2.os.trans hbut.os, hb2.tape.trans hbut.tape, hb2.output.trans hbut.output, Nat.le_trans hbut.size hb2.size, fun k hk hc => (hb2.block k (by omega) (fun h => ?_)).trans (hbut.block k hk hc)⟩⟩
  · rcases hv2 b hb with h | h
    · exact hv1 b h
    · exact .inr (by omega)
  · rcases h with h | h
    · exact hc (.inl h)
    · rcases hv1 k h with h | h
      · exact hc (.inr h)
      · omega
theorem AllInv.end_ {go : Nat} {w wr : World} {v : Value} {L : List (List Int)} (h : AllInv go w v L wr) : AllRPost go w v L wr := by
  obtain ⟨⟨v2, hG2, hO2, hv2⟩, hb2⟩ := h
  exact ⟨⟨v2, hG2, hO2, fun b hb => (hv2 b hb).imp id (by omega)⟩, hb2⟩

set_option maxHeartbeats 4000000 in
set_option maxRecDepth 100000 in
theorem ref_all_6 (u : Int) (x0 x1 x2 x3 x4 x5 x6 x7 : Int) (w : World) (go : Nat) (v : Value) (L : List (List Int)) (hu : 0 ≤ u ∧ u ≤ 6) (hG : Blk w go 117 #[v]) (hown : w.ownsRow (go + 1) 75 8 v L.length (flat8 L)) (hlen : L.length + (Venn.allG 1 u.toNat).length ≤ 100000) :
    Calls Tryz.prog 100 #[.int .i64 u, .int .i64 6, .agg #[.int .i64 x0, .int .i64 x1, .int .i64 x2, .int .i64 x3, .int .i64 x4, .int .i64 x5, .int .i64 x6, .int .i64 x7], .pointer (some ⟨go, 0, none⟩)] w (fun e w' => e = .returned (.tuple #[]) ∧ AllRPost go w v (L ++ (Venn.allG 1 u.toNat).map ([x0, x1, x2, x3, x4, x5] ++ ·)) w') := by
  obtain ⟨VA, vc, rfl⟩ := ownsRow_slice hown
  have hgl := hG.lt
  have hob := hown.lt
  have HL0 := Lib.hid hlen
  have HG := Lib.hid hG
  have HO := Lib.hid hown
  have HALL := Lib.hid (show allPre [x0, x1, x2, x3, x4, x5] 0 u.toNat (u.toNat + 1) = (Venn.allG 1 u.toNat).map ([x0, x1, x2, x3, x4, x5] ++ ·) from allPre_all [x0, x1, x2, x3, x4, x5] 0 u.toNat)
  have HLE := Lib.hid (allPre_len [x0, x1, x2, x3, x4, x5] 0 u.toNat)
  clear hlen hG hown
  go_enter Tryz.func100, Tryz.ntmps100
  go_wp2
  go_loopw [8] (fun i wr => ∃ (k : Nat) (y : Int), k ≤ u.toNat + 1 ∧ i = .int .i64 k ∧ Blk wr w.heap.size 75 #[.int .i64 x0, .int .i64 x1, .int .i64 x2, .int .i64 x3, .int .i64 x4, .int .i64 x5, .int .i64 y, .int .i64 x7] ∧ AllInv go w (.slice VA L.length vc) (L ++ allPre [x0, x1, x2, x3, x4, x5] 0 u.toNat k) wr)
    (fun i _ => u.toNat + 1 - (intOf i).toNat)
  case atStart => exact ⟨0, x6, by omega, rfl, Blk.new _ _ _, by simpa [allPre] using AllInv.start HG.out HO.out _⟩
  case round =>
    obtain ⟨k, y, hk, rfl, hB, hI⟩ := hrel
    by_cases hlt : (k : Int) ≤ u
    · obtain ⟨⟨v1, hG1, hO1, hv1⟩, hbut⟩ := hI
      obtain ⟨V1, c1', rfl⟩ := ownsRow_slice hO1
      have hlb := hO1.lt
      have hne : ¬ go = w.heap.size := by omega
      have hne1 : ∀ b, (Value.slice V1 (L ++ allPre [x0, x1, x2, x3, x4, x5] 0 u.toNat k).length c1').ownBlock = some b → ¬ b = w.heap.size := fun b hb e => by
        rcases hv1 b hb with h | h
        · have := (hob b h).2; omega
        · omega
      have hbl := hB.lt
      have hfz := hB.frozen 6
      have hcl := hB.cell 6
      have B1 := hB.set_ 6 (.int .i64 (k : Int))
      have G1 := hG1.far (p := ⟨w.heap.size, 6, none⟩) hne (.int .i64 (k : Int))
      have O1 := own_but (C := fun b => b = w.heap.size) hO1 ((But.refl (fun b => b = w.heap.size) wr).set_ (p := ⟨w.heap.size, 6, none⟩) rfl (.int .i64 (k : Int))) hne1
      have hb1 := But.setNew (p := ⟨w.heap.size, 6, none⟩) hbut (Nat.le_refl _) (.int .i64 (k : Int))
      have hbz : w.heap.size + 1 ≤ (wr.setCell ⟨w.heap.size, 6, none⟩ (.int .i64 (k : Int))).heap.size := by simp; omega
      have HLEN := Lib.hid (show (L ++ allPre [x0, x1, x2, x3, x4, x5] 0 u.toNat k).length + (Venn.allG 0 (u - (k : Int)).toNat).length ≤ 100000 by
        have h1 := HLE.out (u.toNat - k) (k + 1)
        rw [allPre_succ, show k + 1 + (u.toNat - k) = u.toNat + 1 by omega, HALL.out] at h1
        have h2 := HL0.out
        rw [show (u - (k : Int)).toNat = u.toNat - k by omega]
        simp only [List.length_append, List.length_map] at h1 ⊢
        omega)
      have HEQ := Lib.hid (show (L ++ allPre [x0, x1, x2, x3, x4, x5] 0 u.toNat k) ++ (Venn.allG 0 (u - (k : Int)).toNat).map ([x0, x1, x2, x3, x4, x5, (k : Int)] ++ ·) = L ++ allPre [x0, x1, x2, x3, x4, x5] 0 u.toNat (k + 1) by
        rw [allPre_succ, show (u - (k : Int)).toNat = u.toNat - k by omega, List.append_assoc]
        rfl)
      have hwr1 : IntKind.i64.wrap (u - (k : Int)) = u - (k : Int) := wrap_of (by omega) (by omega)
      go_upto_region 8 with (fail)
      clear hB hbl hfz hcl hG1 hO1 hbut
      revert B1 G1 O1 hb1 hbz
      generalize World.setCell _ _ _ = W1
      intro B1 G1 O1 hb1 hbz
      have HV1 := Lib.hid hv1
      have HB1 := Lib.hid hb1
      have HBZ := Lib.hid hbz
      have HNE := Lib.hid hne1
      have HOB := Lib.hid hob
      replace B1 : Blk W1 w.heap.size 75 #[.int .i64 x0, .int .i64 x1, .int .i64 x2, .int .i64 x3, .int .i64 x4, .int .i64 x5, .int .i64 (k : Int), .int .i64 x7] := by simpa using B1
      obtain ⟨d0, d1, d2, d3, d4, d5, d6, d7⟩ := B1.cells8.1
      have bl := B1.lt
      clear hv1 hb1 hbz hne1 hob
      go_wp2_with fail
      refine (ref_all_7 (u - (k : Int)) x0 x1 x2 x3 x4 x5 (k : Int) x7 W1 go _ _ (by omega) G1 O1 HLEN.out).mono ?_
      rintro e w2 ⟨rfl, hP⟩
      rw [HEQ.out] at hP
      have hB2 := B1.but hP.but (fun h => by
        rcases h with h | h
        · omega
        · exact HNE.out _ h rfl)
      go_wp2
      go_roundw
      case rel => exact ⟨k + 1, (k : Int), by omega, by go_num, hB2, AllInv.step HV1.out HBZ.out HB1.out hP⟩
      case measure => simp [intOf]; omega
    · obtain rfl : k = u.toNat + 1 := by omega
      rw [HALL.out] at hI
      go_wp2
      exact bodyPost_end (results_none rfl _ _ _) rfl ⟨rfl, hI.end_⟩
set_option maxHeartbeats 4000000 in
set_option maxRecDepth 100000 in
theorem ref_all_5 (u : Int) (x0 x1 x2 x3 x4 x5 x6 x7 : Int) (w : World) (go : Nat) (v : Value) (L : List (List Int)) (hu : 0 ≤ u ∧ u ≤ 6) (hG : Blk w go 117 #[v]) (hown : w.ownsRow (go + 1) 75 8 v L.length (flat8 L)) (hlen : L.length + (Venn.allG 2 u.toNat).length ≤ 100000) :
    Calls Tryz.prog 100 #[.int .i64 u, .int .i64 5, .agg #[.int .i64 x0, .int .i64 x1, .int .i64 x2, .int .i64 x3, .int .i64 x4, .int .i64 x5, .int .i64 x6, .int .i64 x7], .pointer (some ⟨go, 0, none⟩)] w (fun e w' => e = .returned (.tuple #[]) ∧ AllRPost go w v (L ++ (Venn.allG 2 u.toNat).map ([x0, x1, x2, x3, x4] ++ ·)) w') := by
  obtain ⟨VA, vc, rfl⟩ := ownsRow_slice hown
  have hgl := hG.lt
  have hob := hown.lt
  have HL0 := Lib.hid hlen
  have HG := Lib.hid hG
  have HO := Lib.hid hown
  have HALL := Lib.hid (show allPre [x0, x1, x2, x3, x4] 1 u.toNat (u.toNat + 1) = (Venn.allG 2 u.toNat).map ([x0, x1, x2, x3, x4] ++ ·) from allPre_all [x0, x1, x2, x3, x4] 1 u.toNat)
  have HLE := Lib.hid (allPre_len [x0, x1, x2, x3, x4] 1 u.toNat)
  clear hlen hG hown
  go_enter Tryz.func100, Tryz.ntmps100
  go_wp2
  go_loopw [8] (fun i wr => ∃ (k : Nat) (y : Int), k ≤ u.toNat + 1 ∧ i = .int .i64 k ∧ Blk wr w.heap.size 75 #[.int .i64 x0, .int .i64 x1, .int .i64 x2, .int .i64 x3, .int .i64 x4, .int .i64 y, .int .i64 x6, .int .i64 x7] ∧ AllInv go w (.slice VA L.length vc) (L ++ allPre [x0, x1, x2, x3, x4] 1 u.toNat k) wr)
    (fun i _ => u.toNat + 1 - (intOf i).toNat)
  case atStart => exact ⟨0, x5, by omega, rfl, Blk.new _ _ _, by simpa [allPre] using AllInv.start HG.out HO.out _⟩
  case round =>
    obtain ⟨k, y, hk, rfl, hB, hI⟩ := hrel
    by_cases hlt : (k : Int) ≤ u
    · obtain ⟨⟨v1, hG1, hO1, hv1⟩, hbut⟩ := hI
      obtain ⟨V1, c1', rfl⟩ := ownsRow_slice hO1
      have hlb := hO1.lt
      have hne : ¬ go = w.heap.size := by omega
      have hne1 : ∀ b, (Value.slice V1 (L ++ allPre [x0, x1, x2, x3, x4] 1 u.toNat k).length c1').ownBlock = some b → ¬ b = w.heap.size := fun b hb e => by
        rcases hv1 b hb with h | h
        · have := (hob b h).2; omega
        · omega
      have hbl := hB.lt
      have hfz := hB.frozen 5
      have hcl := hB.cell 5
      have B1 := hB.set_ 5 (.int .i64 (k : Int))
      have G1 := hG1.far (p := ⟨w.heap.size, 5, none⟩) hne (.int .i64 (k : Int))
      have O1 := own_but (C := fun b => b = w.heap.size) hO1 ((But.refl (fun b => b = w.heap.size) wr).set_ (p := ⟨w.heap.size, 5, none⟩) rfl (.int .i64 (k : Int))) hne1
      have hb1 := But.setNew (p := ⟨w.heap.size, 5, none⟩) hbut (Nat.le_refl _) (.int .i64 (k : Int))
      have hbz : w.heap.size + 1 ≤ (wr.setCell ⟨w.heap.size, 5, none⟩ (.int .i64 (k : Int))).heap.size := by simp; omega
      have HLEN := Lib.hid (show (L ++ allPre [x0, x1, x2, x3, x4] 1 u.toNat k).length + (Venn.allG 1 (u - (k : Int)).toNat).length ≤ 100000 by
        have h1 := HLE.out (u.toNat - k) (k + 1)
        rw [allPre_succ, show k + 1 + (u.toNat - k) = u.toNat + 1 by omega, HALL.out] at h1
        have h2 := HL0.out
        rw [show (u - (k : Int)).toNat = u.toNat - k by omega]
        simp only [List.length_append, List.length_map] at h1 ⊢
        omega)
      have HEQ := Lib.hid (show (L ++ allPre [x0, x1, x2, x3, x4] 1 u.toNat k) ++ (Venn.allG 1 (u - (k : Int)).toNat).map ([x0, x1, x2, x3, x4, (k : Int)] ++ ·) = L ++ allPre [x0, x1, x2, x3, x4] 1 u.toNat (k + 1) by
        rw [allPre_succ, show (u - (k : Int)).toNat = u.toNat - k by omega, List.append_assoc]
        rfl)
      have hwr1 : IntKind.i64.wrap (u - (k : Int)) = u - (k : Int) := wrap_of (by omega) (by omega)
      go_upto_region 8 with (fail)
      clear hB hbl hfz hcl hG1 hO1 hbut
      revert B1 G1 O1 hb1 hbz
      generalize World.setCell _ _ _ = W1
      intro B1 G1 O1 hb1 hbz
      have HV1 := Lib.hid hv1
      have HB1 := Lib.hid hb1
      have HBZ := Lib.hid hbz
      have HNE := Lib.hid hne1
      have HOB := Lib.hid hob
      replace B1 : Blk W1 w.heap.size 75 #[.int .i64 x0, .int .i64 x1, .int .i64 x2, .int .i64 x3, .int .i64 x4, .int .i64 (k : Int), .int .i64 x6, .int .i64 x7] := by simpa using B1
      obtain ⟨d0, d1, d2, d3, d4, d5, d6, d7⟩ := B1.cells8.1
      have bl := B1.lt
      clear hv1 hb1 hbz hne1 hob
      go_wp2_with fail
      refine (ref_all_6 (u - (k : Int)) x0 x1 x2 x3 x4 (k : Int) x6 x7 W1 go _ _ (by omega) G1 O1 HLEN.out).mono ?_
      rintro e w2 ⟨rfl, hP⟩
      rw [HEQ.out] at hP
      have hB2 := B1.but hP.but (fun h => by
        rcases h with h | h
        · omega
        · exact HNE.out _ h rfl)
      go_wp2
      go_roundw
      case rel => exact ⟨k + 1, (k : Int), by omega, by go_num, hB2, AllInv.step HV1.out HBZ.out HB1.out hP⟩
      case measure => simp [intOf]; omega
    · obtain rfl : k = u.toNat + 1 := by omega
      rw [HALL.out] at hI
      go_wp2
      exact bodyPost_end (results_none rfl _ _ _) rfl ⟨rfl, hI.end_⟩
set_option maxHeartbeats 4000000 in
set_option maxRecDepth 100000 in
theorem ref_all_4 (u : Int) (x0 x1 x2 x3 x4 x5 x6 x7 : Int) (w : World) (go : Nat) (v : Value) (L : List (List Int)) (hu : 0 ≤ u ∧ u ≤ 6) (hG : Blk w go 117 #[v]) (hown : w.ownsRow (go + 1) 75 8 v L.length (flat8 L)) (hlen : L.length + (Venn.allG 3 u.toNat).length ≤ 100000) :
    Calls Tryz.prog 100 #[.int .i64 u, .int .i64 4, .agg #[.int .i64 x0, .int .i64 x1, .int .i64 x2, .int .i64 x3, .int .i64 x4, .int .i64 x5, .int .i64 x6, .int .i64 x7], .pointer (some ⟨go, 0, none⟩)] w (fun e w' => e = .returned (.tuple #[]) ∧ AllRPost go w v (L ++ (Venn.allG 3 u.toNat).map ([x0, x1, x2, x3] ++ ·)) w') := by
  obtain ⟨VA, vc, rfl⟩ := ownsRow_slice hown
  have hgl := hG.lt
  have hob := hown.lt
  have HL0 := Lib.hid hlen
  have HG := Lib.hid hG
  have HO := Lib.hid hown
  have HALL := Lib.hid (show allPre [x0, x1, x2, x3] 2 u.toNat (u.toNat + 1) = (Venn.allG 3 u.toNat).map ([x0, x1, x2, x3] ++ ·) from allPre_all [x0, x1, x2, x3] 2 u.toNat)
  have HLE := Lib.hid (allPre_len [x0, x1, x2, x3] 2 u.toNat)
  clear hlen hG hown
  go_enter Tryz.func100, Tryz.ntmps100
  go_wp2
  go_loopw [8] (fun i wr => ∃ (k : Nat) (y : Int), k ≤ u.toNat + 1 ∧ i = .int .i64 k ∧ Blk wr w.heap.size 75 #[.int .i64 x0, .int .i64 x1, .int .i64 x2, .int .i64 x3, .int .i64 y, .int .i64 x5, .int .i64 x6, .int .i64 x7] ∧ AllInv go w (.slice VA L.length vc) (L ++ allPre [x0, x1, x2, x3] 2 u.toNat k) wr)
    (fun i _ => u.toNat + 1 - (intOf i).toNat)
  case atStart => exact ⟨0, x4, by omega, rfl, Blk.new _ _ _, by simpa [allPre] using AllInv.start HG.out HO.out _⟩
  case round =>
    obtain ⟨k, y, hk, rfl, hB, hI⟩ := hrel
    by_cases hlt : (k : Int) ≤ u
    · obtain ⟨⟨v1, hG1, hO1, hv1⟩, hbut⟩ := hI
      obtain ⟨V1, c1', rfl⟩ := ownsRow_slice hO1
      have hlb := hO1.lt
      have hne : ¬ go = w.heap.size := by omega
      have hne1 : ∀ b, (Value.slice V1 (L ++ allPre [x0, x1, x2, x3] 2 u.toNat k).length c1').ownBlock = some b → ¬ b = w.heap.size := fun b hb e => by
        rcases hv1 b hb with h | h
        · have := (hob b h).2; omega
        · omega
      have hbl := hB.lt
      have hfz := hB.frozen 4
      have hcl := hB.cell 4
      have B1 := hB.set_ 4 (.int .i64 (k : Int))
      have G1 := hG1.far (p := ⟨w.heap.size, 4, none⟩) hne (.int .i64 (k : Int))
      have O1 := own_but (C := fun b => b = w.heap.size) hO1 ((But.refl (fun b => b = w.heap.size) wr).set_ (p := ⟨w.heap.size, 4, none⟩) rfl (.int .i64 (k : Int))) hne1
      have hb1 := But.setNew (p := ⟨w.heap.size, 4, none⟩) hbut (Nat.le_refl _) (.int .i64 (k : Int))
      have hbz : w.heap.size + 1 ≤ (wr.setCell ⟨w.heap.size, 4, none⟩ (.int .i64 (k : Int))).heap.size := by simp; omega
      have HLEN := Lib.hid (show (L ++ allPre [x0, x1, x2, x3] 2 u.toNat k).length + (Venn.allG 2 (u - (k : Int)).toNat).length ≤ 100000 by
        have h1 := HLE.out (u.toNat - k) (k + 1)
        rw [allPre_succ, show k + 1 + (u.toNat - k) = u.toNat + 1 by omega, HALL.out] at h1
        have h2 := HL0.out
        rw [show (u - (k : Int)).toNat = u.toNat - k by omega]
        simp only [List.length_append, List.length_map] at h1 ⊢
        omega)
      have HEQ := Lib.hid (show (L ++ allPre [x0, x1, x2, x3] 2 u.toNat k) ++ (Venn.allG 2 (u - (k : Int)).toNat).map ([x0, x1, x2, x3, (k : Int)] ++ ·) = L ++ allPre [x0, x1, x2, x3] 2 u.toNat (k + 1) by
        rw [allPre_succ, show (u - (k : Int)).toNat = u.toNat - k by omega, List.append_assoc]
        rfl)
      have hwr1 : IntKind.i64.wrap (u - (k : Int)) = u - (k : Int) := wrap_of (by omega) (by omega)
      go_upto_region 8 with (fail)
      clear hB hbl hfz hcl hG1 hO1 hbut
      revert B1 G1 O1 hb1 hbz
      generalize World.setCell _ _ _ = W1
      intro B1 G1 O1 hb1 hbz
      have HV1 := Lib.hid hv1
      have HB1 := Lib.hid hb1
      have HBZ := Lib.hid hbz
      have HNE := Lib.hid hne1
      have HOB := Lib.hid hob
      replace B1 : Blk W1 w.heap.size 75 #[.int .i64 x0, .int .i64 x1, .int .i64 x2, .int .i64 x3, .int .i64 (k : Int), .int .i64 x5, .int .i64 x6, .int .i64 x7] := by simpa using B1
      obtain ⟨d0, d1, d2, d3, d4, d5, d6, d7⟩ := B1.cells8.1
      have bl := B1.lt
      clear hv1 hb1 hbz hne1 hob
      go_wp2_with fail
      refine (ref_all_5 (u - (k : Int)) x0 x1 x2 x3 (k : Int) x5 x6 x7 W1 go _ _ (by omega) G1 O1 HLEN.out).mono ?_
      rintro e w2 ⟨rfl, hP⟩
      rw [HEQ.out] at hP
      have hB2 := B1.but hP.but (fun h => by
        rcases h with h | h
        · omega
        · exact HNE.out _ h rfl)
      go_wp2
      go_roundw
      case rel => exact ⟨k + 1, (k : Int), by omega, by go_num, hB2, AllInv.step HV1.out HBZ.out HB1.out hP⟩
      case measure => simp [intOf]; omega
    · obtain rfl : k = u.toNat + 1 := by omega
      rw [HALL.out] at hI
      go_wp2
      exact bodyPost_end (results_none rfl _ _ _) rfl ⟨rfl, hI.end_⟩
set_option maxHeartbeats 4000000 in
set_option maxRecDepth 100000 in
theorem ref_all_3 (u : Int) (x0 x1 x2 x3 x4 x5 x6 x7 : Int) (w : World) (go : Nat) (v : Value) (L : List (List Int)) (hu : 0 ≤ u ∧ u ≤ 6) (hG : Blk w go 117 #[v]) (hown : w.ownsRow (go + 1) 75 8 v L.length (flat8 L)) (hlen : L.length + (Venn.allG 4 u.toNat).length ≤ 100000) :
    Calls Tryz.prog 100 #[.int .i64 u, .int .i64 3, .agg #[.int .i64 x0, .int .i64 x1, .int .i64 x2, .int .i64 x3, .int .i64 x4, .int .i64 x5, .int .i64 x6, .int .i64 x7], .pointer (some ⟨go, 0, none⟩)] w (fun e w' => e = .returned (.tuple #[]) ∧ AllRPost go w v (L ++ (Venn.allG 4 u.toNat).map ([x0, x1, x2] ++ ·)) w') := by
  obtain ⟨VA, vc, rfl⟩ := ownsRow_slice hown
  have hgl := hG.lt
  have hob := hown.lt
  have HL0 := Lib.hid hlen
  have HG := Lib.hid hG
  have HO := Lib.hid hown
  have HALL := Lib.hid (show allPre [x0, x1, x2] 3 u.toNat (u.toNat + 1) = (Venn.allG 4 u.toNat).map ([x0, x1, x2] ++ ·) from allPre_all [x0, x1, x2] 3 u.toNat)
  have HLE := Lib.hid (allPre_len [x0, x1, x2] 3 u.toNat)
  clear hlen hG hown
  go_enter Tryz.func100, Tryz.ntmps100
  go_wp2
  go_loopw [8] (fun i wr => ∃ (k : Nat) (y : Int), k ≤ u.toNat + 1 ∧ i = .int .i64 k ∧ Blk wr w.heap.size 75 #[.int .i64 x0, .int .i64 x1, .int .i64 x2, .int .i64 y, .int .i64 x4, .int .i64 x5, .int .i64 x6, .int .i64 x7] ∧ AllInv go w (.slice VA L.length vc) (L ++ allPre [x0, x1, x2] 3 u.toNat k) wr)
    (fun i _ => u.toNat + 1 - (intOf i).toNat)
  case atStart => exact ⟨0, x3, by omega, rfl, Blk.new _ _ _, by simpa [allPre] using AllInv.start HG.out HO.out _⟩
  case round =>
    obtain ⟨k, y, hk, rfl, hB, hI⟩ := hrel
    by_cases hlt : (k : Int) ≤ u
    · obtain ⟨⟨v1, hG1, hO1, hv1⟩, hbut⟩ := hI
      obtain ⟨V1, c1', rfl⟩ := ownsRow_slice hO1
      have hlb := hO1.lt
      have hne : ¬ go = w.heap.size := by omega
      have hne1 : ∀ b, (Value.slice V1 (L ++ allPre [x0, x1, x2] 3 u.toNat k).length c1').ownBlock = some b → ¬ b = w.heap.size := fun b hb e => by
        rcases hv1 b hb with h | h
        · have := (hob b h).2; omega
        · omega
      have hbl := hB.lt
      have hfz := hB.frozen 3
      have hcl := hB.cell 3
      have B1 := hB.set_ 3 (.int .i64 (k : Int))
      have G1 := hG1.far (p := ⟨w.heap.size, 3, none⟩) hne (.int .i64 (k : Int))
      have O1 := own_but (C := fun b => b = w.heap.size) hO1 ((But.refl (fun b => b = w.heap.size) wr).set_ (p := ⟨w.heap.size, 3, none⟩) rfl (.int .i64 (k : Int))) hne1
      have hb1 := But.setNew (p := ⟨w.heap.size, 3, none⟩) hbut (Nat.le_refl _) (.int .i64 (k : Int))
      have hbz : w.heap.size + 1 ≤ (wr.setCell ⟨w.heap.size, 3, none⟩ (.int .i64 (k : Int))).heap.size := by simp; omega
      have HLEN := Lib.hid (show (L ++ allPre [x0, x1, x2] 3 u.toNat k).length + (Venn.allG 3 (u - (k : Int)).toNat).length ≤ 100000 by
        have h1 := HLE.out (u.toNat - k) (k + 1)
        rw [allPre_succ, show k + 1 + (u.toNat - k) = u.toNat + 1 by omega, HALL.out] at h1
        have h2 := HL0.out
        rw [show (u - (k : Int)).toNat = u.toNat - k by omega]
        simp only [List.length_append, List.length_map] at h1 ⊢
        omega)
      have HEQ := Lib.hid (show (L ++ allPre [x0, x1, x2] 3 u.toNat k) ++ (Venn.allG 3 (u - (k : Int)).toNat).map ([x0, x1, x2, (k : Int)] ++ ·) = L ++ allPre [x0, x1, x2] 3 u.toNat (k + 1) by
        rw [allPre_succ, show (u - (k : Int)).toNat = u.toNat - k by omega, List.append_assoc]
        rfl)
      have hwr1 : IntKind.i64.wrap (u - (k : Int)) = u - (k : Int) := wrap_of (by omega) (by omega)
      go_upto_region 8 with (fail)
      clear hB hbl hfz hcl hG1 hO1 hbut
      revert B1 G1 O1 hb1 hbz
      generalize World.setCell _ _ _ = W1
      intro B1 G1 O1 hb1 hbz
      have HV1 := Lib.hid hv1
      have HB1 := Lib.hid hb1
      have HBZ := Lib.hid hbz
      have HNE := Lib.hid hne1
      have HOB := Lib.hid hob
      replace B1 : Blk W1 w.heap.size 75 #[.int .i64 x0, .int .i64 x1, .int .i64 x2, .int .i64 (k : Int), .int .i64 x4, .int .i64 x5, .int .i64 x6, .int .i64 x7] := by simpa using B1
      obtain ⟨d0, d1, d2, d3, d4, d5, d6, d7⟩ := B1.cells8.1
      have bl := B1.lt
      clear hv1 hb1 hbz hne1 hob
      go_wp2_with fail
      refine (ref_all_4 (u - (k : Int)) x0 x1 x2 (k : Int) x4 x5 x6 x7 W1 go _ _ (by omega) G1 O1 HLEN.out).mono ?_
      rintro e w2 ⟨rfl, hP⟩
      rw [HEQ.out] at hP
      have hB2 := B1.but hP.but (fun h => by
        rcases h with h | h
        · omega
        · exact HNE.out _ h rfl)
      go_wp2
      go_roundw
      case rel => exact ⟨k + 1, (k : Int), by omega, by go_num, hB2, AllInv.step HV1.out HBZ.out HB1.out hP⟩
      case measure => simp [intOf]; omega
    · obtain rfl : k = u.toNat + 1 := by omega
      rw [HALL.out] at hI
      go_wp2
      exact bodyPost_end (results_none rfl _ _ _) rfl ⟨rfl, hI.end_⟩
set_option maxHeartbeats 4000000 in
set_option maxRecDepth 100000 in
theorem ref_all_2 (u : Int) (x0 x1 x2 x3 x4 x5 x6 x7 : Int) (w : World) (go : Nat) (v : Value) (L : List (List Int)) (hu : 0 ≤ u ∧ u ≤ 6) (hG : Blk w go 117 #[v]) (hown : w.ownsRow (go + 1) 75 8 v L.length (flat8 L)) (hlen : L.length + (Venn.allG 5 u.toNat).length ≤ 100000) :
    Calls Tryz.prog 100 #[.int .i64 u, .int .i64 2, .agg #[.int .i64 x0, .int .i64 x1, .int .i64 x2, .int .i64 x3, .int .i64 x4, .int .i64 x5, .int .i64 x6, .int .i64 x7], .pointer (some ⟨go, 0, none⟩)] w (fun e w' => e = .returned (.tuple #[]) ∧ AllRPost go w v (L ++ (Venn.allG 5 u.toNat).map ([x0, x1] ++ ·)) w') := by
  obtain ⟨VA, vc, rfl⟩ := ownsRow_slice hown
  have hgl := hG.lt
  have hob := hown.lt
  have HL0 := Lib.hid hlen
  have HG := Lib.hid hG
  have HO := Lib.hid hown
  have HALL := Lib.hid (show allPre [x0, x1] 4 u.toNat (u.toNat + 1) = (Venn.allG 5 u.toNat).map ([x0, x1] ++ ·) from allPre_all [x0, x1] 4 u.toNat)
  have HLE := Lib.hid (allPre_len [x0, x1] 4 u.toNat)
  clear hlen hG hown
  go_enter Tryz.func100, Tryz.ntmps100
  go_wp2
  go_loopw [8] (fun i wr => ∃ (k : Nat) (y : Int), k ≤ u.toNat + 1 ∧ i = .int .i64 k ∧ Blk wr w.heap.size 75 #[.int .i64 x0, .int .i64 x1, .int .i64 y, .int .i64 x3, .int .i64 x4, .int .i64 x5, .int .i64 x6, .int .i64 x7] ∧ AllInv go w (.slice VA L.length vc) (L ++ allPre [x0, x1] 4 u.toNat k) wr)
    (fun i _ => u.toNat + 1 - (intOf i).toNat)
  case atStart => exact ⟨0, x2, by omega, rfl, Blk.new _ _ _, by simpa [allPre] using AllInv.start HG.out HO.out _⟩
  case round =>
    obtain ⟨k, y, hk, rfl, hB, hI⟩ := hrel
    by_cases hlt : (k : Int) ≤ u
    · obtain ⟨⟨v1, hG1, hO1, hv1⟩, hbut⟩ := hI
      obtain ⟨V1, c1', rfl⟩ := ownsRow_slice hO1
      have hlb := hO1.lt
      have hne : ¬ go = w.heap.size := by omega
      have hne1 : ∀ b, (Value.slice V1 (L ++ allPre [x0, x1] 4 u.toNat k).length c1').ownBlock = some b → ¬ b = w.heap.size := fun b hb e => by
        rcases hv1 b hb with h | h
        · have := (hob b h).2; omega
        · omega
      have hbl := hB.lt
      have hfz := hB.frozen 2
      have hcl := hB.cell 2
      have B1 := hB.set_ 2 (.int .i64 (k : Int))
      have G1 := hG1.far (p := ⟨w.heap.size, 2, none⟩) hne (.int .i64 (k : Int))
      have O1 := own_but (C := fun b => b = w.heap.size) hO1 ((But.refl (fun b => b = w.heap.size) wr).set_ (p := ⟨w.heap.size, 2, none⟩) rfl (.int .i64 (k : Int))) hne1
      have hb1 := But.setNew (p := ⟨w.heap.size, 2, none⟩) hbut (Nat.le_refl _) (.int .i64 (k : Int))
      have hbz : w.heap.size + 1 ≤ (wr.setCell ⟨w.heap.size, 2, none⟩ (.int .i64 (k : Int))).heap.size := by simp; omega
      have HLEN := Lib.hid (show (L ++ allPre [x0, x1] 4 u.toNat k).length + (Venn.allG 4 (u - (k : Int)).toNat).length ≤ 100000 by
        have h1 := HLE.out (u.toNat - k) (k + 1)
        rw [allPre_succ, show k + 1 + (u.toNat - k) = u.toNat + 1 by omega, HALL.out] at h1
        have h2 := HL0.out
        rw [show (u - (k : Int)).toNat = u.toNat - k by omega]
        simp only [List.length_append, List.length_map] at h1 ⊢
        omega)
      have HEQ := Lib.hid (show (L ++ allPre [x0, x1] 4 u.toNat k) ++ (Venn.allG 4 (u - (k : Int)).toNat).map ([x0, x1, (k : Int)] ++ ·) = L ++ allPre [x0, x1] 4 u.toNat (k + 1) by
        rw [allPre_succ, show (u - (k : Int)).toNat = u.toNat - k by omega, List.append_assoc]
        rfl)
      have hwr1 : IntKind.i64.wrap (u - (k : Int)) = u - (k : Int) := wrap_of (by omega) (by omega)
      go_upto_region 8 with (fail)
      clear hB hbl hfz hcl hG1 hO1 hbut
      revert B1 G1 O1 hb1 hbz
      generalize World.setCell _ _ _ = W1
      intro B1 G1 O1 hb1 hbz
      have HV1 := Lib.hid hv1
      have HB1 := Lib.hid hb1
      have HBZ := Lib.hid hbz
      have HNE := Lib.hid hne1
      have HOB := Lib.hid hob
      replace B1 : Blk W1 w.heap.size 75 #[.int .i64 x0, .int .i64 x1, .int .i64 (k : Int), .int .i64 x3, .int .i64 x4, .int .i64 x5, .int .i64 x6, .int .i64 x7] := by simpa using B1
      obtain ⟨d0, d1, d2, d3, d4, d5, d6, d7⟩ := B1.cells8.1
      have bl := B1.lt
      clear hv1 hb1 hbz hne1 hob
      go_wp2_with fail
      refine (ref_all_3 (u - (k : Int)) x0 x1 (k : Int) x3 x4 x5 x6 x7 W1 go _ _ (by omega) G1 O1 HLEN.out).mono ?_
      rintro e w2 ⟨rfl, hP⟩
      rw [HEQ.out] at hP
      have hB2 := B1.but hP.but (fun h => by
        rcases h with h | h
        · omega
        · exact HNE.out _ h rfl)
      go_wp2
      go_roundw
      case rel => exact ⟨k + 1, (k : Int), by omega, by go_num, hB2, AllInv.step HV1.out HBZ.out HB1.out hP⟩
      case measure => simp [intOf]; omega
    · obtain rfl : k = u.toNat + 1 := by omega
      rw [HALL.out] at hI
      go_wp2
      exact bodyPost_end (results_none rfl _ _ _) rfl ⟨rfl, hI.end_⟩
set_option maxHeartbeats 4000000 in
set_option maxRecDepth 100000 in
theorem ref_all_1 (u : Int) (x0 x1 x2 x3 x4 x5 x6 x7 : Int) (w : World) (go : Nat) (v : Value) (L : List (List Int)) (hu : 0 ≤ u ∧ u ≤ 6) (hG : Blk w go 117 #[v]) (hown : w.ownsRow (go + 1) 75 8 v L.length (flat8 L)) (hlen : L.length + (Venn.allG 6 u.toNat).length ≤ 100000) :
    Calls Tryz.prog 100 #[.int .i64 u, .int .i64 1, .agg #[.int .i64 x0, .int .i64 x1, .int .i64 x2, .int .i64 x3, .int .i64 x4, .int .i64 x5, .int .i64 x6, .int .i64 x7], .pointer (some ⟨go, 0, none⟩)] w (fun e w' => e = .returned (.tuple #[]) ∧ AllRPost go w v (L ++ (Venn.allG 6 u.toNat).map ([x0] ++ ·)) w') := by
  obtain ⟨VA, vc, rfl⟩ := ownsRow_slice hown
  have hgl := hG.lt
  have hob := hown.lt
  have HL0 := Lib.hid hlen
  have HG := Lib.hid hG
  have HO := Lib.hid hown
  have HALL := Lib.hid (show allPre [x0] 5 u.toNat (u.toNat + 1) = (Venn.allG 6 u.toNat).map ([x0] ++ ·) from allPre_all [x0] 5 u.toNat)
  have HLE := Lib.hid (allPre_len [x0] 5 u.toNat)
  clear hlen hG hown
  go_enter Tryz.func100, Tryz.ntmps100
  go_wp2
  go_loopw [8] (fun i wr => ∃ (k : Nat) (y : Int), k ≤ u.toNat + 1 ∧ i = .int .i64 k ∧ Blk wr w.heap.size 75 #[.int .i64 x0, .int .i64 y, .int .i64 x2, .int .i64 x3, .int .i64 x4, .int .i64 x5, .int .i64 x6, .int .i64 x7] ∧ AllInv go w (.slice VA L.length vc) (L ++ allPre [x0] 5 u.toNat k) wr)
    (fun i _ => u.toNat + 1 - (intOf i).toNat)
  case atStart => exact ⟨0, x1, by omega, rfl, Blk.new _ _ _, by simpa [allPre] using AllInv.start HG.out HO.out _⟩
  case round =>
    obtain ⟨k, y, hk, rfl, hB, hI⟩ := hrel
    by_cases hlt : (k : Int) ≤ u
    · obtain ⟨⟨v1, hG1, hO1, hv1⟩, hbut⟩ := hI
      obtain ⟨V1, c1', rfl⟩ := ownsRow_slice hO1
      have hlb := hO1.lt
      have hne : ¬ go = w.heap.size := by omega
      have hne1 : ∀ b, (Value.slice V1 (L ++ allPre [x0] 5 u.toNat k).length c1').ownBlock = some b → ¬ b = w.heap.size := fun b hb e => by
        rcases hv1 b hb with h | h
        · have := (hob b h).2; omega
        · omega
      have hbl := hB.lt
      have hfz := hB.frozen 1
      have hcl := hB.cell 1
      have B1 := hB.set_ 1 (.int .i64 (k : Int))
      have G1 := hG1.far (p := ⟨w.heap.size, 1, none⟩) hne (.int .i64 (k : Int))
      have O1 := own_but (C := fun b => b = w.heap.size) hO1 ((But.refl (fun b => b = w.heap.size) wr).set_ (p := ⟨w.heap.size, 1, none⟩) rfl (.int .i64 (k : Int))) hne1
      have hb1 := But.setNew (p := ⟨w.heap.size, 1, none⟩) hbut (Nat.le_refl _) (.int .i64 (k : Int))
      have hbz : w.heap.size + 1 ≤ (wr.setCell ⟨w.heap.size, 1, none⟩ (.int .i64 (k : Int))).heap.size := by simp; omega
      have HLEN := Lib.hid (show (L ++ allPre [x0] 5 u.toNat k).length + (Venn.allG 5 (u - (k : Int)).toNat).length ≤ 100000 by
        have h1 := HLE.out (u.toNat - k) (k + 1)
        rw [allPre_succ, show k + 1 + (u.toNat - k) = u.toNat + 1 by omega, HALL.out] at h1
        have h2 := HL0.out
        rw [show (u - (k : Int)).toNat = u.toNat - k by omega]
        simp only [List.length_append, List.length_map] at h1 ⊢
        omega)
      have HEQ := Lib.hid (show (L ++ allPre [x0] 5 u.toNat k) ++ (Venn.allG 5 (u - (k : Int)).toNat).map ([x0, (k : Int)] ++ ·) = L ++ allPre [x0] 5 u.toNat (k + 1) by
        rw [allPre_succ, show (u - (k : Int)).toNat = u.toNat - k by omega, List.append_assoc]
        rfl)
      have hwr1 : IntKind.i64.wrap (u - (k : Int)) = u - (k : Int) := wrap_of (by omega) (by omega)
      go_upto_region 8 with (fail)
      clear hB hbl hfz hcl hG1 hO1 hbut
      revert B1 G1 O1 hb1 hbz
      generalize World.setCell _ _ _ = W1
      intro B1 G1 O1 hb1 hbz
      have HV1 := Lib.hid hv1
      have HB1 := Lib.hid hb1
      have HBZ := Lib.hid hbz
      have HNE := Lib.hid hne1
      have HOB := Lib.hid hob
      replace B1 : Blk W1 w.heap.size 75 #[.int .i64 x0, .int .i64 (k : Int), .int .i64 x2, .int .i64 x3, .int .i64 x4, .int .i64 x5, .int .i64 x6, .int .i64 x7] := by simpa using B1
      obtain ⟨d0, d1, d2, d3, d4, d5, d6, d7⟩ := B1.cells8.1
      have bl := B1.lt
      clear hv1 hb1 hbz hne1 hob
      go_wp2_with fail
      refine (ref_all_2 (u - (k : Int)) x0 (k : Int) x2 x3 x4 x5 x6 x7 W1 go _ _ (by omega) G1 O1 HLEN.out).mono ?_
      rintro e w2 ⟨rfl, hP⟩
      rw [HEQ.out] at hP
      have hB2 := B1.but hP.but (fun h => by
        rcases h with h | h
        · omega
        · exact HNE.out _ h rfl)
      go_wp2
      go_roundw
      case rel => exact ⟨k + 1, (k : Int), by omega, by go_num, hB2, AllInv.step HV1.out HBZ.out HB1.out hP⟩
      case measure => simp [intOf]; omega
    · obtain rfl : k = u.toNat + 1 := by omega
      rw [HALL.out] at hI
      go_wp2
      exact bodyPost_end (results_none rfl _ _ _) rfl ⟨rfl, hI.end_⟩
set_option maxHeartbeats 4000000 in
set_option maxRecDepth 100000 in
theorem ref_all_0 (u : Int) (x0 x1 x2 x3 x4 x5 x6 x7 : Int) (w : World) (go : Nat) (v : Value) (L : List (List Int)) (hu : 0 ≤ u ∧ u ≤ 6) (hG : Blk w go 117 #[v]) (hown : w.ownsRow (go + 1) 75 8 v L.length (flat8 L)) (hlen : L.length + (Venn.allG 7 u.toNat).length ≤ 100000) :
    Calls Tryz.prog 100 #[.int .i64 u, .int .i64 0, .agg #[.int .i64 x0, .int .i64 x1, .int .i64 x2, .int .i64 x3, .int .i64 x4, .int .i64 x5, .int .i64 x6, .int .i64 x7], .pointer (some ⟨go, 0, none⟩)] w (fun e w' => e = .returned (.tuple #[]) ∧ AllRPost go w v (L ++ (Venn.allG 7 u.toNat).map ([] ++ ·)) w') := by
  obtain ⟨VA, vc, rfl⟩ := ownsRow_slice hown
  have hgl := hG.lt
  have hob := hown.lt
  have HL0 := Lib.hid hlen
  have HG := Lib.hid hG
  have HO := Lib.hid hown
  have HALL := Lib.hid (show allPre [] 6 u.toNat (u.toNat + 1) = (Venn.allG 7 u.toNat).map ([] ++ ·) from allPre_all [] 6 u.toNat)
  have HLE := Lib.hid (allPre_len [] 6 u.toNat)
  clear hlen hG hown
  go_enter Tryz.func100, Tryz.ntmps100
  go_wp2
  go_loopw [8] (fun i wr => ∃ (k : Nat) (y : Int), k ≤ u.toNat + 1 ∧ i = .int .i64 k ∧ Blk wr w.heap.size 75 #[.int .i64 y, .int .i64 x1, .int .i64 x2, .int .i64 x3, .int .i64 x4, .int .i64 x5, .int .i64 x6, .int .i64 x7] ∧ AllInv go w (.slice VA L.length vc) (L ++ allPre [] 6 u.toNat k) wr)
    (fun i _ => u.toNat + 1 - (intOf i).toNat)
  case atStart => exact ⟨0, x0, by omega, rfl, Blk.new _ _ _, by simpa [allPre] using AllInv.start HG.out HO.out _⟩
  case round =>
    obtain ⟨k, y, hk, rfl, hB, hI⟩ := hrel
    by_cases hlt : (k : Int) ≤ u
    · obtain ⟨⟨v1, hG1, hO1, hv1⟩, hbut⟩ := hI
      obtain ⟨V1, c1', rfl⟩ := ownsRow_slice hO1
      have hlb := hO1.lt
      have hne : ¬ go = w.heap.size := by omega
      have hne1 : ∀ b, (Value.slice V1 (L ++ allPre [] 6 u.toNat k).length c1').ownBlock = some b → ¬ b = w.heap.size := fun b hb e => by
        rcases hv1 b hb with h | h
        · have := (hob b h).2; omega
        · omega
      have hbl := hB.lt
      have hfz := hB.frozen 0
      have hcl := hB.cell 0
      have B1 := hB.set_ 0 (.int .i64 (k : Int))
      have G1 := hG1.far (p := ⟨w.heap.size, 0, none⟩) hne (.int .i64 (k : Int))
      have O1 := own_but (C := fun b => b = w.heap.size) hO1 ((But.refl (fun b => b = w.heap.size) wr).set_ (p := ⟨w.heap.size, 0, none⟩) rfl (.int .i64 (k : Int))) hne1
      have hb1 := But.setNew (p := ⟨w.heap.size, 0, none⟩) hbut (Nat.le_refl _) (.int .i64 (k : Int))
      have hbz : w.heap.size + 1 ≤ (wr.setCell ⟨w.heap.size, 0, none⟩ (.int .i64 (k : Int))).heap.size := by simp; omega
      have HLEN := Lib.hid (show (L ++ allPre [] 6 u.toNat k).length + (Venn.allG 6 (u - (k : Int)).toNat).length ≤ 100000 by
        have h1 := HLE.out (u.toNat - k) (k + 1)
        rw [allPre_succ, show k + 1 + (u.toNat - k) = u.toNat + 1 by omega, HALL.out] at h1
        have h2 := HL0.out
        rw [show (u - (k : Int)).toNat = u.toNat - k by omega]
        simp only [List.length_append, List.length_map] at h1 ⊢
        omega)
      have HEQ := Lib.hid (show (L ++ allPre [] 6 u.toNat k) ++ (Venn.allG 6 (u - (k : Int)).toNat).map ([(k : Int)] ++ ·) = L ++ allPre [] 6 u.toNat (k + 1) by
        rw [allPre_succ, show (u - (k : Int)).toNat = u.toNat - k by omega, List.append_assoc]
        rfl)
      have hwr1 : IntKind.i64.wrap (u - (k : Int)) = u - (k : Int) := wrap_of (by omega) (by omega)
      go_upto_region 8 with (fail)
      clear hB hbl hfz hcl hG1 hO1 hbut
      revert B1 G1 O1 hb1 hbz
      generalize World.setCell _ _ _ = W1
      intro B1 G1 O1 hb1 hbz
      have HV1 := Lib.hid hv1
      have HB1 := Lib.hid hb1
      have HBZ := Lib.hid hbz
      have HNE := Lib.hid hne1
      have HOB := Lib.hid hob
      replace B1 : Blk W1 w.heap.size 75 #[.int .i64 (k : Int), .int .i64 x1, .int .i64 x2, .int .i64 x3, .int .i64 x4, .int .i64 x5, .int .i64 x6, .int .i64 x7] := by simpa using B1
      obtain ⟨d0, d1, d2, d3, d4, d5, d6, d7⟩ := B1.cells8.1
      have bl := B1.lt
      clear hv1 hb1 hbz hne1 hob
      go_wp2_with fail
      refine (ref_all_1 (u - (k : Int)) (k : Int) x1 x2 x3 x4 x5 x6 x7 W1 go _ _ (by omega) G1 O1 HLEN.out).mono ?_
      rintro e w2 ⟨rfl, hP⟩
      rw [HEQ.out] at hP
      have hB2 := B1.but hP.but (fun h => by
        rcases h with h | h
        · omega
        · exact HNE.out _ h rfl)
      go_wp2
      go_roundw
      case rel => exact ⟨k + 1, (k : Int), by omega, by go_num, hB2, AllInv.step HV1.out HBZ.out HB1.out hP⟩
      case measure => simp [intOf]; omega
    · obtain rfl : k = u.toNat + 1 := by omega
      rw [HALL.out] at hI
      go_wp2
      exact bodyPost_end (results_none rfl _ _ _) rfl ⟨rfl, by simpa using hI.end_⟩
theorem allG_len : ∀ u : Fin 7, (Venn.allG 7 u.val).length ≤ 100000 := by decide +kernel
theorem allC_len {u : Int} (hu : 0 ≤ u ∧ u ≤ 6) : (Venn.allG 7 u.toNat).length ≤ 100000 := allG_len ⟨u.toNat, by omega⟩
set_option maxHeartbeats 4000000 in
set_option maxRecDepth 100000 in
/-- The reference's All: every list of counts of the sum u, in its own new row. -/
theorem ref_All (u : Int) (w : World) (hu : 0 ≤ u ∧ u ≤ 6) :
    Calls Tryz.prog 71 #[.int .i64 u] w (fun e w' => ∃ v, e = .returned v ∧ Below w.heap.size w w' ∧ w'.ownsRow (w.heap.size + 1) 75 8 v (Venn.allC u).length (flat8 (Venn.allC u))) := by
  have HLEN := Lib.hid (show ([] : List (List Int)).length + (Venn.allG 7 u.toNat).length ≤ 100000 by simpa using allC_len hu)
  have HEQ := Lib.hid (show ([] : List (List Int)) ++ (Venn.allG 7 u.toNat).map (([] : List Int) ++ ·) = Venn.allC u by simp [Venn.allC])
  generalize Venn.allC u = LL at HEQ ⊢
  go_enter Tryz.func71, Tryz.ntmps71
  go_wp2_with fail
  refine (ref_all_0 u 0 0 0 0 0 0 0 0 _ w.heap.size (.slice none 0 0) [] hu ((Blk.new w 117 #[.slice none 0 0]).alloc _) (World.ownsRow_nil _ _ _ _) HLEN.out).mono ?_
  rintro e w1 ⟨rfl, ⟨v1, G1, O1, _⟩, hb⟩
  rw [HEQ.out] at O1
  obtain ⟨V1, c1, rfl⟩ := ownsRow_slice O1
  have hb1 := (((But.refl _ w).alloc _).alloc _).trans hb
  have hb2 := hb1.below (B := w.heap.size) (Nat.le_refl _) (fun b hc => by
    rcases hc with rfl | hc
    · exact Nat.le_refl _
    · cases hc)
  have c0 := G1.cell 0
  clear hb hb1 G1
  go_wp2
  go_ret
  exact ⟨_, rfl, hb2, O1⟩
end Go.Proofs.YtjnjgcibhjdmdaaGreatDoor

namespace Go.Proofs.YtjnjgcibhjdmdaaGreatDoor
open Go.RowKit

theorem orBit_has0 : ∀ (T : Fin 6) (s : Fin 64) (f : Fin 8), Venn.setChk (T.val : Nat) (s.val : Nat) = 0 → Venn.orBit (s.val : Nat) f.val 0 (T.val : Nat) = if Venn.bit (f.val : Nat) 0 = true then ((s.val : Nat) : Int) + ((2 ^ T.val : Nat) : Int) else ((s.val : Nat) : Int) := by decide +kernel
theorem orBit_has1 : ∀ (T : Fin 6) (s : Fin 64) (f : Fin 8), Venn.setChk (T.val : Nat) (s.val : Nat) = 0 → Venn.orBit (s.val : Nat) f.val 1 (T.val : Nat) = if Venn.bit (f.val : Nat) 1 = true then ((s.val : Nat) : Int) + ((2 ^ T.val : Nat) : Int) else ((s.val : Nat) : Int) := by decide +kernel
theorem orBit_has2 : ∀ (T : Fin 6) (s : Fin 64) (f : Fin 8), Venn.setChk (T.val : Nat) (s.val : Nat) = 0 → Venn.orBit (s.val : Nat) f.val 2 (T.val : Nat) = if Venn.bit (f.val : Nat) 2 = true then ((s.val : Nat) : Int) + ((2 ^ T.val : Nat) : Int) else ((s.val : Nat) : Int) := by decide +kernel
theorem orBit_has {T f : Nat} {s : Int} (hT : T ≤ 5) (hf : f < 8) (h : Venn.setChk (T : Int) s = 0) :
    Venn.orBit s f 0 (T : Int) = (if Venn.bit (f : Int) 0 = true then s + ((2 ^ T : Nat) : Int) else s) ∧ Venn.orBit s f 1 (T : Int) = (if Venn.bit (f : Int) 1 = true then s + ((2 ^ T : Nat) : Int) else s) ∧ Venn.orBit s f 2 (T : Int) = (if Venn.bit (f : Int) 2 = true then s + ((2 ^ T : Nat) : Int) else s) := by
  obtain ⟨_, S, _, rfl⟩ := Venn.small_of h
  exact ⟨orBit_has0 ⟨T, by omega⟩ S ⟨f, hf⟩ h, orBit_has1 ⟨T, by omega⟩ S ⟨f, hf⟩ h, orBit_has2 ⟨T, by omega⟩ S ⟨f, hf⟩ h⟩

/-- What lies while the reference makes a world. -/
structure RBlk (w wr : World) (box cs : Array Value) : Prop where
  below : Below w.heap.size w wr
  box : Blk wr w.heap.size 75 box
  res : Blk wr (w.heap.size + 1) 45 #[.int .i64 0, .int .i64 0, .int .i64 0, .int .i64 0]
  blk : Blk wr (w.heap.size + 1 + 1) 45 cs
theorem RBlk.drew {w wr : World} {box cs : Array Value} (h : RBlk w wr box cs) : RBlk w wr.drew box cs := ⟨h.below.drew, h.box.drew, h.res.drew, h.blk.drew⟩
theorem RBlk.store {w wr : World} {box cs : Array Value} (h : RBlk w wr box cs) (i : Nat) (u : Value) : RBlk w (wr.setCell ⟨w.heap.size + 1 + 1, i, none⟩ u) box (cs.setIfInBounds i u) :=
  ⟨h.below.setCell (p := ⟨w.heap.size + 1 + 1, i, none⟩) (by simp; omega) _, h.box.far (p := ⟨w.heap.size + 1 + 1, i, none⟩) (by simp; omega) _, h.res.far (p := ⟨w.heap.size + 1 + 1, i, none⟩) (by simp) _, h.blk.set_ i u⟩

/-- The cells while the names are gone through. -/
def namesAt (T a b c a' b' c' : Int) (k : Nat) : Array Value :=
  if k = 0 then #[.int .i64 T, .int .i64 a, .int .i64 b, .int .i64 c] else if k = 1 then #[.int .i64 T, .int .i64 a', .int .i64 b, .int .i64 c] else if k = 2 then #[.int .i64 T, .int .i64 a', .int .i64 b', .int .i64 c] else #[.int .i64 T, .int .i64 a', .int .i64 b', .int .i64 c']

set_option maxHeartbeats 4000000 in
set_option maxRecDepth 100000 in
theorem ref_Made (n0 n1 n2 n3 n4 n5 n6 n7 : Int) (w : World) (hp : ∀ x ∈ [n0, n1, n2, n3, n4, n5, n6, n7], 0 ≤ x) (hs : [n0, n1, n2, n3, n4, n5, n6, n7].sum ≤ 6) :
    Calls Tryz.prog 72 #[.agg #[.int .i64 n0, .int .i64 n1, .int .i64 n2, .int .i64 n3, .int .i64 n4, .int .i64 n5, .int .i64 n6, .int .i64 n7]] w
      (Keeps (.agg #[.int .i64 (Venn.made [n0, n1, n2, n3, n4, n5, n6, n7]).things, .int .i64 (Venn.made [n0, n1, n2, n3, n4, n5, n6, n7]).a, .int .i64 (Venn.made [n0, n1, n2, n3, n4, n5, n6, n7]).b, .int .i64 (Venn.made [n0, n1, n2, n3, n4, n5, n6, n7]).c]) w) := by
  generalize hl : [n0, n1, n2, n3, n4, n5, n6, n7] = l at hp hs ⊢
  obtain ⟨bx, hbx⟩ : ∃ bx : Array Value, bx = #[.int .i64 n0, .int .i64 n1, .int .i64 n2, .int .i64 n3, .int .i64 n4, .int .i64 n5, .int .i64 n6, .int .i64 n7] := ⟨_, rfl⟩
  have hidx : ∀ k (h : k < l.length), bx[k]? = some (.int .i64 l[k]) := by
    intro k hk
    subst hl hbx
    simp only [List.length_cons, List.length_nil] at hk
    rcases (by omega : k = 0 ∨ k = 1 ∨ k = 2 ∨ k = 3 ∨ k = 4 ∨ k = 5 ∨ k = 6 ∨ k = 7) with rfl | rfl | rfl | rfl | rfl | rfl | rfl | rfl
    all_goals rfl
  have hlen : l.length = 8 := by subst hl; rfl
  have HI := Lib.hid hidx
  have HP := Lib.hid hp
  have HBX := Lib.hid hbx
  clear hl hidx hp hbx
  go_enter Tryz.func72, Tryz.ntmps72
  go_wp2
  have hpre : ∀ k (h : k < l.length), 0 ≤ l[k] := fun k h => HP.out _ (List.getElem_mem h)
  have HPR := Lib.hid hpre; clear hpre
  go_loopw [4] (fun i wr => ∃ (k : Nat) (W : Venn.World), k ≤ 8 ∧ i = .int .i64 k ∧ RBlk w wr bx #[.int .i64 W.things, .int .i64 W.a, .int .i64 W.b, .int .i64 W.c] ∧ Venn.worldChk W = 0 ∧ W.things + (l.drop k).sum ≤ 6 ∧ Venn.madeGo k (l.drop k) W = Venn.made l)
    (fun i _ => 8 - (intOf i).toNat)
  case atStart =>
    exact ⟨0, ⟨0, 0, 0, 0⟩, by omega, rfl, ⟨by (repeat' (first | (with_reducible exact Below.refl _ _) | (with_reducible assumption) | (with_reducible refine Below.next ?_ (by with_reducible assumption)) | (with_reducible refine Below.drew ?_) | (with_reducible refine Below.laid ?_ _) | (with_reducible refine Below.setCell ?_ ?_ _) | (with_reducible refine size_of ?_) | (with_reducible refine Nat.le_succ_of_le ?_) | go_size)), by rw [HBX.out]; exact ((Blk.new _ _ _).alloc _).alloc _, (Blk.newAt (by simp) _ _).alloc _, Blk.newAt (by simp) _ _⟩, by decide, by simpa using hs, rfl⟩
  case round =>
    obtain ⟨k, W, hk, rfl, hinv, hchk, hsum, hgo⟩ := hrel
    obtain ⟨wo, rfl⟩ : ∃ wo : World, wo = wr := ⟨_, rfl⟩
    have HG := Lib.hid hgo; clear hgo
    by_cases hlt : k < 8
    · have hkl : k < l.length := by omega
      have HD := Lib.hid (List.drop_eq_getElem_cons hkl)
      have hx0 := HPR.out k hkl
      have hbox := HI.out k hkl
      generalize l[k] = x at hbox HD hx0
      obtain ⟨n, rfl⟩ := Int.eq_ofNat_of_zero_le hx0
      rw [HD.out, List.sum_cons] at hsum
      have hk1 : (k : Int) < 8 := by omega
      have hk0 : (0 : Int) ≤ (k : Int) := by omega
      have hrest0 : 0 ≤ (l.drop (k + 1)).sum := Venn.sum_nonneg _ fun x hx => HP.out x (List.mem_of_mem_drop hx)
      have ht0 : 0 ≤ W.things := by have := (Venn.worldChk_iff.1 hchk).1; simp only [Venn.things, Bool.and_eq_true, decide_eq_true_eq] at this; exact this.1
      have hn6 : n ≤ 6 := by omega
      have HBOX := Lib.hid hbox
      clear hbox
      go_wp2
      go_loopw [5] (fun i wr => ∃ (j : Nat) (W' : Venn.World), j ≤ n ∧ i = .int .i64 j ∧ RBlk w wr bx #[.int .i64 W'.things, .int .i64 W'.a, .int .i64 W'.b, .int .i64 W'.c] ∧ Venn.worldChk W' = 0 ∧ W'.things + (n - j : Nat) = W.things + n ∧ Venn.addMany k (n - j) W' = Venn.addMany k n W)
        (fun i _ => n - (intOf i).toNat)
      case atStart => exact ⟨0, W, by omega, rfl, hinv, hchk, by simp, by simp⟩
      case round =>
        obtain ⟨j, W', hj, rfl, hin, hc', hth, hadd⟩ := hrel
        obtain ⟨wi, rfl⟩ : ∃ wi : World, wi = wr := ⟨_, rfl⟩
        have HA := Lib.hid hadd; clear hadd
        have hcell : wi.cell? ⟨w.heap.size, k, none⟩ = some (.int .i64 (n : Int)) := (hin.box.cell k).trans HBOX.out
        have hlb := hin.box.lt
        have hj6 : (j : Int) ≤ 6 := by omega
        by_cases hjn : j < n
        · have hjn' : (j : Int) < (n : Int) := by omega
          obtain ⟨h0, ra, rb, rc⟩ := Venn.worldChk_iff.1 hc'
          simp only [Venn.things, Bool.and_eq_true, decide_eq_true_eq] at h0
          have HCN := Lib.hid (Venn.addThing_right (k := k) (by omega) hc' (by omega))
          have HTN := Lib.hid (show (Venn.addThing k W').things = W'.things + 1 from rfl)
          have HADD := Lib.hid (show Venn.addMany k (n - (j + 1)) (Venn.addThing k W') = Venn.addMany k n W by rw [← HA.out, show n - j = (n - (j + 1)) + 1 by omega]; rfl)
          obtain ⟨T0, a, b, c⟩ := W'
          simp only at hin h0 ra rb rc hth HCN HTN HADD
          obtain ⟨T, rfl⟩ := Int.eq_ofNat_of_zero_le h0.1
          have hT5 : T ≤ 5 := by omega
          have HOA := Lib.hid (orBit_has hT5 hlt ra).1
          have HOB := Lib.hid (orBit_has hT5 hlt rb).2.1
          have HOC := Lib.hid (orBit_has hT5 hlt rc).2.2
          have ba := setChk_63 ra
          have bb := setChk_63 rb
          have bc := setChk_63 rc
          have h2 : 2 ^ T ≤ 2 ^ 6 := Nat.pow_le_pow_right (by omega) (by omega)
          have HPW := Lib.hid (fun W => ref_Power (T : Int) W (by omega))
          rw [Int.toNat_natCast] at HPW
          simp only [Venn.addThing] at HCN HTN HADD
          clear hc' ra rb rc
          have HHAS := Lib.hid (fun (nm : Int) (hnm : 0 ≤ nm ∧ nm ≤ 5) W => ref_Has (k : Int) nm W (by omega) hnm)
          generalize Venn.orBit a k 0 (T : Int) = a' at HOA HCN HADD
          generalize Venn.orBit b k 1 (T : Int) = b' at HOB HCN HADD
          generalize Venn.orBit c k 2 (T : Int) = c' at HOC HCN HADD
          generalize 2 ^ T = P2 at HPW HOA HOB HOC h2
          have hwa : IntKind.i64.wrap (a + (P2 : Int)) = a + (P2 : Int) := IntWalk.i64_in _ (by omega)
          have hwb : IntKind.i64.wrap (b + (P2 : Int)) = b + (P2 : Int) := IntWalk.i64_in _ (by omega)
          have hwc : IntKind.i64.wrap (c + (P2 : Int)) = c + (P2 : Int) := IntWalk.i64_in _ (by omega)
          go_wp2
          go_loopw [6] (fun kk wr => ∃ q : Nat, q ≤ 3 ∧ kk = .int .i64 q ∧ RBlk w wr bx (namesAt T a b c a' b' c' q)) (fun kk _ => 3 - (intOf kk).toNat)
          case atStart => exact ⟨0, by omega, rfl, hin⟩
          case round =>
            clear hcell hlb
            obtain ⟨q, hq, rfl, hB⟩ := hrel
            obtain ⟨wk, rfl⟩ : ∃ wk : World, wk = wr := ⟨_, rfl⟩
            rcases (by omega : q = 0 ∨ q = 1 ∨ q = 2 ∨ q = 3) with rfl | rfl | rfl | rfl
            · have B : RBlk w wk bx #[.int .i64 T, .int .i64 a, .int .i64 b, .int .i64 c] := hB
              clear hB
              obtain ⟨c0, c1, c2, c3⟩ := B.blk.cells4
              have f1 := B.blk.frozen 1
              cases hbt : Venn.bit (k : Int) 0
              · have HB := Lib.hid hbt
                have HE := Lib.hid (show a' = a by rw [HOA.out, hbt]; rfl)
                clear hbt
                go_wp2_with (go_at_call 101; refine (HHAS.out _ (by decide) _).mono ?_; rintro e w' ⟨rfl, rfl⟩; rw [show Venn.bit (k : Int) (0 : Int).toNat = false from HB.out])
                go_roundw
                case rel => exact ⟨1, by omega, by go_num, by show RBlk w _ bx #[.int .i64 T, .int .i64 a', .int .i64 b, .int .i64 c]; rw [HE.out]; exact B⟩
                case measure => simp [intOf]
              · have HB := Lib.hid hbt
                have HE := Lib.hid (show a' = a + (P2 : Int) by rw [HOA.out, hbt]; rfl)
                clear hbt
                go_wp2_with (go_at_call 101; refine (HHAS.out _ (by decide) _).mono ?_; rintro e w' ⟨rfl, rfl⟩; rw [show Venn.bit (k : Int) (0 : Int).toNat = true from HB.out])
                go_still_tail 11, (by kernel_rfl)
                first
                  | still_call (Pure.still (HPW.out _))
                  | refine ⟨_, Pure.still (HPW.out _), ?_⟩
                repeat still_step
                refine wpStill_nil ?_
                go_wp2
                have B2 := B.drew.store 1 (.int .i64 (a + (P2 : Int)))
                simp only [List.setIfInBounds_toArray, List.set_cons_zero, List.set_cons_succ] at B2
                go_roundw
                case rel => exact ⟨1, by omega, by go_num, by show RBlk w _ bx #[.int .i64 T, .int .i64 a', .int .i64 b, .int .i64 c]; rw [HE.out]; exact B2⟩
                case measure => simp [intOf]
            · have B : RBlk w wk bx #[.int .i64 T, .int .i64 a', .int .i64 b, .int .i64 c] := hB
              clear hB
              obtain ⟨c0, c1, c2, c3⟩ := B.blk.cells4
              have f1 := B.blk.frozen 2
              cases hbt : Venn.bit (k : Int) 1
              · have HB := Lib.hid hbt
                have HE := Lib.hid (show b' = b by rw [HOB.out, hbt]; rfl)
                clear hbt
                go_wp2_with (go_at_call 101; refine (HHAS.out _ (by decide) _).mono ?_; rintro e w' ⟨rfl, rfl⟩; rw [show Venn.bit (k : Int) (1 : Int).toNat = false from HB.out])
                go_roundw
                case rel => exact ⟨2, by omega, by go_num, by show RBlk w _ bx #[.int .i64 T, .int .i64 a', .int .i64 b', .int .i64 c]; rw [HE.out]; exact B⟩
                case measure => simp [intOf]
              · have HB := Lib.hid hbt
                have HE := Lib.hid (show b' = b + (P2 : Int) by rw [HOB.out, hbt]; rfl)
                clear hbt
                go_wp2_with (go_at_call 101; refine (HHAS.out _ (by decide) _).mono ?_; rintro e w' ⟨rfl, rfl⟩; rw [show Venn.bit (k : Int) (1 : Int).toNat = true from HB.out])
                go_still_tail 11, (by kernel_rfl)
                first
                  | still_call (Pure.still (HPW.out _))
                  | refine ⟨_, Pure.still (HPW.out _), ?_⟩
                repeat still_step
                refine wpStill_nil ?_
                go_wp2
                have B2 := B.drew.store 2 (.int .i64 (b + (P2 : Int)))
                simp only [List.setIfInBounds_toArray, List.set_cons_zero, List.set_cons_succ] at B2
                go_roundw
                case rel => exact ⟨2, by omega, by go_num, by show RBlk w _ bx #[.int .i64 T, .int .i64 a', .int .i64 b', .int .i64 c]; rw [HE.out]; exact B2⟩
                case measure => simp [intOf]
            · have B : RBlk w wk bx #[.int .i64 T, .int .i64 a', .int .i64 b', .int .i64 c] := hB
              clear hB
              obtain ⟨c0, c1, c2, c3⟩ := B.blk.cells4
              have f1 := B.blk.frozen 3
              cases hbt : Venn.bit (k : Int) 2
              · have HB := Lib.hid hbt
                have HE := Lib.hid (show c' = c by rw [HOC.out, hbt]; rfl)
                clear hbt
                go_wp2_with (go_at_call 101; refine (HHAS.out _ (by decide) _).mono ?_; rintro e w' ⟨rfl, rfl⟩; rw [show Venn.bit (k : Int) (2 : Int).toNat = false from HB.out])
                go_roundw
                case rel => exact ⟨3, by omega, by go_num, by show RBlk w _ bx #[.int .i64 T, .int .i64 a', .int .i64 b', .int .i64 c']; rw [HE.out]; exact B⟩
                case measure => simp [intOf]
              · have HB := Lib.hid hbt
                have HE := Lib.hid (show c' = c + (P2 : Int) by rw [HOC.out, hbt]; rfl)
                clear hbt
                go_wp2_with (go_at_call 101; refine (HHAS.out _ (by decide) _).mono ?_; rintro e w' ⟨rfl, rfl⟩; rw [show Venn.bit (k : Int) (2 : Int).toNat = true from HB.out])
                go_still_tail 11, (by kernel_rfl)
                first
                  | still_call (Pure.still (HPW.out _))
                  | refine ⟨_, Pure.still (HPW.out _), ?_⟩
                repeat still_step
                refine wpStill_nil ?_
                go_wp2
                have B2 := B.drew.store 3 (.int .i64 (c + (P2 : Int)))
                simp only [List.setIfInBounds_toArray, List.set_cons_zero, List.set_cons_succ] at B2
                go_roundw
                case rel => exact ⟨3, by omega, by go_num, by show RBlk w _ bx #[.int .i64 T, .int .i64 a', .int .i64 b', .int .i64 c']; rw [HE.out]; exact B2⟩
                case measure => simp [intOf]
            · have B : RBlk w wk bx #[.int .i64 T, .int .i64 a', .int .i64 b', .int .i64 c'] := hB
              clear hB
              obtain ⟨c0, c1, c2, c3⟩ := B.blk.cells4
              have f0 := B.blk.frozen 0
              have hwt : IntKind.i64.wrap ((T : Int) + 1) = (T : Int) + 1 := IntWalk.i64_in _ (by omega)
              go_wp2
              have B2 := B.store 0 (.int .i64 ((T : Int) + 1))
              simp only [List.setIfInBounds_toArray, List.set_cons_zero] at B2
              go_roundw
              case rel => exact ⟨j + 1, ⟨(T : Int) + 1, a', b', c'⟩, by omega, by go_num, B2, HCN.out, by simp only; omega, HADD.out⟩
              case measure => simp [intOf]; omega
        · have hjn' : j = n := by omega
          subst hjn'
          rw [Nat.sub_self] at HA hth
          have hnn : ¬ (j : Int) < (j : Int) := by omega
          go_wp2
          go_roundw
          case rel =>
            refine ⟨k + 1, W', by omega, by go_num, hin, hc', by omega, ?_⟩
            rw [← HG.out, HD.out, Venn.madeGo, Int.toNat_natCast, ← HA.out]
            rfl
          case measure => simp [intOf]; omega
    · have hk8 : k = 8 := by omega
      subst hk8
      have hG := HG.out
      rw [List.drop_eq_nil_of_le (by omega)] at hG
      have hW := Lib.hid (show W = Venn.made l from hG)
      obtain ⟨c0, c1, c2, c3⟩ := hinv.blk.cells4
      obtain ⟨d0, d1, d2, d3⟩ := hinv.res.cells4
      have f0 := hinv.res.frozen 0
      have f1 := hinv.res.frozen 1
      have f2 := hinv.res.frozen 2
      have f3 := hinv.res.frozen 3
      have HIN := Lib.hid hinv
      clear hG hinv HI HP HPR
      go_wp2
      refine bodyPost_ret (v := .agg #[.int .i64 W.things, .int .i64 W.a, .int .i64 W.b, .int .i64 W.c]) (by simp [results, Tryz.results72, go_sem, d0, d1, d2, d3]) rfl ⟨by rw [hW.out], ?_⟩
      exact (((HIN.out.below.setCell (p := ⟨w.heap.size + 1, 0, none⟩) (by simp) _).setCell (p := ⟨w.heap.size + 1, 1, none⟩) (by simp) _).setCell (p := ⟨w.heap.size + 1, 2, none⟩) (by simp) _).setCell (p := ⟨w.heap.size + 1, 3, none⟩) (by simp) _

/-- A list of a single 1. -/
def unitL (f : Nat) : List Int := (List.replicate 8 (0 : Int)).set f 1
theorem made_unit : ∀ f : Fin 8, Venn.made (unitL f.val) = ⟨1, ((f.val % 2 : Nat) : Int), ((f.val / 2 % 2 : Nat) : Int), ((f.val / 4 % 2 : Nat) : Int)⟩ := by
  intro f
  rcases (by omega : f.val = 0 ∨ f.val = 1 ∨ f.val = 2 ∨ f.val = 3 ∨ f.val = 4 ∨ f.val = 5 ∨ f.val = 6 ∨ f.val = 7) with h | h | h | h | h | h | h | h
  all_goals rw [h]; rfl
theorem lies_bit (t : List Int) (f : Nat) : Venn.lies t f = if Venn.bit (Venn.lies t f) 0 = true then 1 else 0 := by
  rcases (by have := Venn.lies_01 t f; omega : Venn.lies t f = 0 ∨ Venn.lies t f = 1) with h | h <;> rw [h] <;> decide
end Go.Proofs.YtjnjgcibhjdmdaaGreatDoor

namespace Venn
/-! ### the first number, found from above -/
theorem firstFrom_down {p : Nat → Bool} {N k : Nat} (hk : k < N) : firstFrom p (N - k) k = if p k = true then (k : Int) else firstFrom p (N - (k + 1)) (k + 1) := by
  rw [show N - k = (N - (k + 1)) + 1 by omega, firstFrom]
theorem firstFrom_neg {p : Nat → Bool} : ∀ (n k : Nat), firstFrom p n k = -1 ∨ (k : Int) ≤ firstFrom p n k := by
  intro n
  induction n with
  | zero => intro k; exact .inl rfl
  | succ n ih =>
    intro k
    rw [firstFrom]
    split
    · exact .inr (Int.le_refl _)
    · rcases ih (k + 1) with h | h
      · exact .inl h
      · exact .inr (by omega)

/-! ### the ways to put things into fields, as the reference reckons -/
def facGo : Nat → Int
  | 0 => 1
  | n + 1 => facGo n * ((n + 1 : Nat) : Int)
def divTo (w : Int) : Nat → Int
  | 0 => w
  | 1 => w
  | n + 2 => divTo w (n + 1) / ((n + 2 : Nat) : Int)
def waysRef (l : List Int) : Int := l.foldl (fun w n => divTo w n.toNat) (facGo l.sum.toNat)
set_option maxRecDepth 1000000 in
theorem waysRef_lit : ∀ (u : Fin 7), ∀ x ∈ allG 7 u.val, waysRef x = ways x := by decide +kernel
theorem waysRef_all {u : Int} (h : things u = true) {x : List Int} (hx : x ∈ allC u) : waysRef x = ways x := by
  simp only [things, Bool.and_eq_true, decide_eq_true_eq] at h
  have : x ∈ allG 7 u.toNat := by simpa [allC] using hx
  exact waysRef_lit ⟨u.toNat, by omega⟩ x this
theorem facGo_range : ∀ s : Nat, s ≤ 6 → 1 ≤ facGo s ∧ facGo s ≤ 720 := by
  have : ∀ s : Fin 7, 1 ≤ facGo s.val ∧ facGo s.val ≤ 720 := by decide
  exact fun s hs => this ⟨s, by omega⟩
theorem div_range {w k : Int} (h : 0 ≤ w ∧ w ≤ 720) (hk : 1 ≤ k) : 0 ≤ w / k ∧ w / k ≤ 720 := by
  constructor
  · exact Int.ediv_nonneg h.1 (by omega)
  · have := Int.ediv_le_self k h.1
    omega
theorem divTo_range {w : Int} (h : 0 ≤ w ∧ w ≤ 720) : ∀ n : Nat, 0 ≤ divTo w n ∧ divTo w n ≤ 720
  | 0 => h
  | 1 => h
  | n + 2 => div_range (divTo_range h (n + 1)) (by omega)

/-! ### the span, begun at 100 -/
theorem span_begin (f : Form) (t : List Int) (u : Int) : ∀ (l : List (List Int)) (p q : Int × Int), (∀ x ∈ l, cntT t x ≤ u) → u ≤ 6 → p.2 = q.2 → (p.2 = -1 ∧ p.1 = u + 1 ∧ q.1 = 100 ∨ 0 ≤ p.2 ∧ p.1 = q.1) →
    (l.foldl (spanStep f t) p).2 = (l.foldl (spanStep f t) q).2 ∧ ((l.foldl (spanStep f t) p).2 = -1 ∧ (l.foldl (spanStep f t) p).1 = u + 1 ∧ (l.foldl (spanStep f t) q).1 = 100 ∨ 0 ≤ (l.foldl (spanStep f t) p).2 ∧ (l.foldl (spanStep f t) p).1 = (l.foldl (spanStep f t) q).1) := by
  intro l
  induction l with
  | nil => intro p q _ _ h1 h2; exact ⟨h1, h2⟩
  | cons x l ih =>
    intro p q hc hu h1 h2
    have hx := hc x (by simp)
    have h0 := (cntT_le t x).1
    rw [List.foldl_cons, List.foldl_cons]
    refine ih _ _ (fun y hy => hc y (List.mem_cons_of_mem _ hy)) hu ?_ ?_
    · unfold spanStep
      split
      · show max p.2 (cntT t x) = max q.2 (cntT t x)
        rw [h1]
      · exact h1
    · unfold spanStep
      split
      · refine .inr ⟨?_, ?_⟩
        · show 0 ≤ max p.2 (cntT t x); omega
        · show min p.1 (cntT t x) = min q.1 (cntT t x); omega
      · exact h2
def spanRef (f : Form) (t : List Int) (l : List (List Int)) : Int × Int := l.foldl (spanStep f t) (100, -1)
theorem spanRef_go {f : Form} {t : List Int} {u : Int} (hu : things u = true) : (spanRef f t (allC u)).2 = (spanGo f t u (allC u)).2 ∧ (¬ (spanGo f t u (allC u)).2 < 0 → spanRef f t (allC u) = spanGo f t u (allC u)) := by
  have hu' := hu
  simp only [things, Bool.and_eq_true, decide_eq_true_eq] at hu'
  obtain ⟨h1, h2⟩ := span_begin f t u (allC u) (u + 1, -1) (100, -1) (fun x hx => by
    obtain ⟨h1, h2⟩ := made_allC hu hx
    have := many_things (termSet_right h1 t)
    rw [h2] at this
    exact this) hu'.2 rfl (.inl ⟨rfl, rfl, rfl⟩)
  refine ⟨h1.symm, fun h => ?_⟩
  rcases h2 with h2 | h2
  · exact absurd (show (spanGo f t u (allC u)).2 < 0 by unfold spanGo; rw [h2.1]; decide) h
  · exact Prod.ext h2.2.symm h1.symm
theorem spanRef_snoc (f : Form) (t : List Int) (pre : List (List Int)) (x : List Int) : spanRef f t (pre ++ [x]) = spanStep f t (spanRef f t pre) x := by simp [spanRef]
theorem spanRef_range (f : Form) (t : List Int) (l : List (List Int)) : (-1 ≤ (spanRef f t l).1 ∧ (spanRef f t l).1 ≤ 100) ∧ (-1 ≤ (spanRef f t l).2 ∧ (spanRef f t l).2 ≤ 100) := by
  have : ∀ (l : List (List Int)) (p : Int × Int), (-1 ≤ p.1 ∧ p.1 ≤ 100) → (-1 ≤ p.2 ∧ p.2 ≤ 100) → (-1 ≤ (l.foldl (spanStep f t) p).1 ∧ (l.foldl (spanStep f t) p).1 ≤ 100) ∧ (-1 ≤ (l.foldl (spanStep f t) p).2 ∧ (l.foldl (spanStep f t) p).2 ≤ 100) := by
    intro l
    induction l with
    | nil => intro p h1 h2; exact ⟨h1, h2⟩
    | cons x l ih =>
      intro p h1 h2
      have hc := cntT_le t x
      refine ih _ ?_ ?_
      · unfold spanStep
        split
        · show -1 ≤ min p.1 (cntT t x) ∧ min p.1 (cntT t x) ≤ 100; omega
        · exact h1
      · unfold spanStep
        split
        · show -1 ≤ max p.2 (cntT t x) ∧ max p.2 (cntT t x) ≤ 100; omega
        · exact h2
  exact this l _ (by simp only []; omega) (by simp only []; omega)
end Venn

namespace Go.Proofs.YtjnjgcibhjdmdaaGreatDoor
open Go.RowKit

/-! ### worlds in memory -/
theorem rdBlk {w : World} {g : Nat} {t : TypeId} {cs : Array Value} (h : Blk w g t cs) : Rd w (some ⟨g, 0, none⟩) cs.toList := fun j u hj => by
  refine ⟨_, rfl, ?_⟩
  have hadd : (⟨g, 0, none⟩ : Addr).add j = ⟨g, j, none⟩ := by unfold Addr.add; split <;> simp_all
  rw [hadd, h.cell j]
  simpa using hj
def wCells : List Venn.World → List Value
  | [] => []
  | W :: l => .int .i64 W.things :: .int .i64 W.a :: .int .i64 W.b :: .int .i64 W.c :: wCells l
theorem wCells_len : ∀ l : List Venn.World, (wCells l).length = l.length * 4 := by
  intro l
  induction l with
  | nil => rfl
  | cons W l ih => simp only [wCells, List.length_cons, ih]; omega
theorem wCells_app : ∀ l m : List Venn.World, wCells (l ++ m) = wCells l ++ wCells m := by
  intro l
  induction l with
  | nil => intro m; rfl
  | cons W l ih => intro m; simp only [List.cons_append, wCells, ih]
theorem wCells_at : ∀ (l : List Venn.World) (k : Nat) (W : Venn.World), l[k]? = some W →
    (wCells l)[k * 4]? = some (.int .i64 W.things) ∧ (wCells l)[k * 4 + 1]? = some (.int .i64 W.a) ∧ (wCells l)[k * 4 + 2]? = some (.int .i64 W.b) ∧ (wCells l)[k * 4 + 3]? = some (.int .i64 W.c) := by
  intro l
  induction l with
  | nil => intro k W h; simp at h
  | cons V l ih =>
    intro k W h
    rcases k with _ | k
    · simp only [List.getElem?_cons_zero, Option.some.injEq] at h
      subst h
      exact ⟨rfl, rfl, rfl, rfl⟩
    · have := ih k W (by simpa using h)
      rw [show (k + 1) * 4 = k * 4 + 4 by omega]
      simp only [wCells]
      exact this
theorem wCells_one : ∀ (l : List Venn.World), ∀ u ∈ wCells l, u.oneCell' = true := by
  intro l
  induction l with
  | nil => intro u h; cases h
  | cons W l ih =>
    intro u h
    simp only [wCells, List.mem_cons] at h
    rcases h with rfl | rfl | rfl | rfl | h
    · rfl
    · rfl
    · rfl
    · rfl
    · exact ih u h
theorem world_info : (Tryz.prog.info? 45).map (fun i => (i.zero, i.size, i.bytes)) = some (some (.agg #[.int .i64 0, .int .i64 0, .int .i64 0, .int .i64 0]), 4, 32) := by kernel_rfl
set_option maxRecDepth 100000 in
theorem wpList_appW {ops : Array Oper} {rest : List Oper} {o : Oper} {a : Act} {Q : Exit → Act → World → Prop} (w : World) (hgd : o.guard = none) (s x : Operand)
    (ho : o.op = .call { callee := .builtin .append, args := #[s, x], argTypes := #[85, 85] })
    (base : Nat) (v : Value) (n : Nat) (xs : List Value) (hs : a.eval s = v) (hown : w.ownsRow base 45 4 v n xs)
    (ad : Addr) (c : Nat) (p : List Venn.World) (hx : a.eval x = .slice (some ad) p.length c) (hr : Rd w (some ad) (wCells p)) (hn : n + p.length ≤ 100000) (hbase : base ≤ w.heap.size)
    (h : ∀ v' w', w'.ownsRow base 45 4 v' (n + p.length) (xs ++ wCells p) → w.grownBy w' v.ownBlock → wpList Tryz.prog ops Q rest (a.put o.dst v') w') : wpList Tryz.prog ops Q (o :: rest) a w := by
  obtain ⟨i0, hi, hz0, hz1, hz2⟩ := info_parts world_info
  refine wpList_append_own w hgd s x _ ho base _ i0 _ 4 32 Tryz.underlying85 hi hz0 hz1 hz2 rfl (by decide) v n xs hs hown ad p.length c (wCells p) hx (wCells_len p) ?_ (wCells_one p) (by unfold maxLen; omega) (by omega) hbase (fun v' w' h1 h2 _ => h v' w' h1 h2)
  intro j u hj
  obtain ⟨ad', e, hc⟩ := hr j u hj
  cases e
  exact hc
/-- A slice of worlds reads as l. -/
def IsWorlds (w : World) (v : Value) (l : List Venn.World) : Prop :=
  ∃ A c, v = .slice A l.length c ∧ (∀ (k : Nat) (W : Venn.World), l[k]? = some W → ∃ ad, A = some ad ∧ w.cell? (ad.add (k * 4)) = some (.int .i64 W.things) ∧ w.cell? ⟨(ad.add (k * 4)).block, (ad.add (k * 4)).off + 1, none⟩ = some (.int .i64 W.a) ∧
    w.cell? ⟨(ad.add (k * 4)).block, (ad.add (k * 4)).off + 2, none⟩ = some (.int .i64 W.b) ∧ w.cell? ⟨(ad.add (k * 4)).block, (ad.add (k * 4)).off + 3, none⟩ = some (.int .i64 W.c)) ∧ l.length ≤ c ∧ c ≤ maxLen
theorem IsWorlds.keep {w w' : World} {v : Value} {l : List Venn.World} (h : IsWorlds w v l) (hb : Below w.heap.size w w') : IsWorlds w' v l := by
  obtain ⟨A, c, hv, hr, hc⟩ := h
  refine ⟨A, c, hv, fun k a ha => ?_, hc⟩
  obtain ⟨ad, e, h0, h1, h2, h3⟩ := hr k a ha
  exact ⟨ad, e, cell_keep hb h0, cell_keep hb h1, cell_keep hb h2, cell_keep hb h3⟩
theorem IsWorlds.of_own {w : World} {base : Nat} {e : TypeId} {v : Value} {n : Nat} {l : List Venn.World} (h : w.ownsRow base e 4 v n (wCells l)) : IsWorlds w v l := by
  have hn : n = l.length := by have := h.1; rw [wCells_len] at this; omega
  subst hn
  rcases h.2 with ⟨rfl, hl⟩ | ⟨g, cap, cur, rfl, _, hh, hnc, hcm, hcs, ht⟩
  · have : l = [] := List.eq_nil_of_length_eq_zero hl
    subst this
    exact ⟨none, 0, rfl, fun k W hk => by simp at hk, Nat.le_refl _, by simp⟩
  · refine ⟨_, _, rfl, fun k W hk => ⟨_, rfl, ?_⟩, hnc, hcm⟩
    obtain ⟨c0, c1, c2, c3⟩ := wCells_at l k W hk
    have g0 := h.cells (g := g) rfl _ _ c0
    have g1 := h.cells (g := g) rfl _ _ c1
    have g2 := h.cells (g := g) rfl _ _ c2
    have g3 := h.cells (g := g) rfl _ _ c3
    rw [adr_add _ _ _ (by decide)] at g1 g2 g3
    exact ⟨g0, g1, g2, g3⟩
theorem f8_get : ∀ (l : List (List Int)) (k j : Nat) (x : List Int) (y : Int), (∀ r ∈ l, r.length = 8) → l[k]? = some x → x[j]? = some y → (flat8 l)[k * 8 + j]? = some (.int .i64 y) := by
  intro l
  induction l with
  | nil => intro k j x y _ h; simp at h
  | cons r l ih =>
    intro k j x y h hx hy
    have hr := h r (by simp)
    rcases k with _ | k
    · simp only [List.getElem?_cons_zero, Option.some.injEq] at hx
      subst hx
      have hj := (List.getElem?_eq_some_iff.1 hy).1
      simp only [flat8, List.flatMap_cons, Nat.zero_mul, Nat.zero_add]
      rw [List.getElem?_append_left (by simpa using hj)]
      simp [hy]
    · have h1 := ih k j x y (fun r hr => h r (List.mem_cons_of_mem _ hr)) (by simpa using hx) hy
      simp only [flat8, List.flatMap_cons]
      rw [List.getElem?_append_right (by simp; omega)]
      simp only [List.length_map, hr]
      rw [show (k + 1) * 8 + j - 8 = k * 8 + j by omega]
      exact h1
theorem own_eight {w : World} {base e n c : Nat} {ad : Option Addr} {l : List (List Int)} {k : Nat} {a0 a1 a2 a3 a4 a5 a6 a7 : Int} (h : w.ownsRow base e 8 (.slice ad n c) n (flat8 l)) (h8 : ∀ r ∈ l, r.length = 8) (hx : l[k]? = some [a0, a1, a2, a3, a4, a5, a6, a7]) :
    ∃ ga : Addr, ad = some ga ∧ w.cell? (ga.add (k * 8)) = some (.int .i64 a0) ∧ w.cell? ⟨(ga.add (k * 8)).block, (ga.add (k * 8)).off + 1, none⟩ = some (.int .i64 a1) ∧ w.cell? ⟨(ga.add (k * 8)).block, (ga.add (k * 8)).off + 2, none⟩ = some (.int .i64 a2) ∧
      w.cell? ⟨(ga.add (k * 8)).block, (ga.add (k * 8)).off + 3, none⟩ = some (.int .i64 a3) ∧ w.cell? ⟨(ga.add (k * 8)).block, (ga.add (k * 8)).off + 4, none⟩ = some (.int .i64 a4) ∧ w.cell? ⟨(ga.add (k * 8)).block, (ga.add (k * 8)).off + 5, none⟩ = some (.int .i64 a5) ∧
      w.cell? ⟨(ga.add (k * 8)).block, (ga.add (k * 8)).off + 6, none⟩ = some (.int .i64 a6) ∧ w.cell? ⟨(ga.add (k * 8)).block, (ga.add (k * 8)).off + 7, none⟩ = some (.int .i64 a7) := by
  rcases h.2 with ⟨hv, hn⟩ | ⟨g, cap, cur, hv, _⟩
  · exfalso
    have h1 := h.1
    subst hn
    have h2 : (flat8 l)[k * 8 + 0]? = some (.int .i64 a0) := f8_get l k 0 _ a0 h8 hx rfl
    have := (List.getElem?_eq_some_iff.1 h2).1
    omega
  · simp only [Value.slice.injEq] at hv
    obtain ⟨rfl, _, rfl⟩ := hv
    have hc : ∀ j y, ([a0, a1, a2, a3, a4, a5, a6, a7] : List Int)[j]? = some y → w.cell? (((⟨g, 0, none⟩ : Addr).add (k * 8)).add j) = some (.int .i64 y) := fun j y hy => by
      rw [add_of_add]
      exact h.cells (g := g) rfl _ _ (f8_get l k j _ y h8 hx hy)
    exact ⟨⟨g, 0, none⟩, rfl, hc 0 a0 rfl, hc 1 a1 rfl, hc 2 a2 rfl, hc 3 a3 rfl, hc 4 a4 rfl, hc 5 a5 rfl, hc 6 a6 rfl, hc 7 a7 rfl⟩
theorem allC_parts {u : Int} (hu : Venn.things u = true) {x : List Int} (hx : x ∈ Venn.allC u) : ∃ a0 a1 a2 a3 a4 a5 a6 a7, x = [a0, a1, a2, a3, a4, a5, a6, a7] ∧ (∀ y ∈ [a0, a1, a2, a3, a4, a5, a6, a7], 0 ≤ y) ∧ [a0, a1, a2, a3, a4, a5, a6, a7].sum = u := by
  obtain ⟨h8, hp, hs⟩ := (Venn.mem_allC hu x).1 hx
  match x, h8 with
  | [a0, a1, a2, a3, a4, a5, a6, a7], _ => exact ⟨a0, a1, a2, a3, a4, a5, a6, a7, rfl, hp, hs⟩
theorem allC_len2 {u : Int} (hu : 0 ≤ u ∧ u ≤ 6) : (Venn.allC u).length ≤ 90000 := by
  have : ∀ u : Fin 7, (Venn.allG 7 u.val).length ≤ 90000 := by decide +kernel
  have h := this ⟨u.toNat, by omega⟩
  simpa [Venn.allC] using h

set_option maxHeartbeats 4000000 in
set_option maxRecDepth 100000 in
theorem ref_Worlds (u : Int) (w : World) (hu : Venn.things u = true) :
    Calls Tryz.prog 46 #[.int .i64 u] w (fun e w' => ∃ v, e = .returned v ∧ Below w.heap.size w w' ∧ w'.ownsRow w.heap.size 45 4 v (Venn.allC u).length (wCells ((Venn.allC u).map Venn.made))) := by
  have hu6 := hu
  simp only [Venn.things, Bool.and_eq_true, decide_eq_true_eq] at hu6
  have HLEN := Lib.hid (allC_len2 hu6)
  have HP := Lib.hid (fun x => allC_parts hu (x := x))
  have HA := Lib.hid (fun W => ref_All u W hu6)
  have H8 := Lib.hid (show ∀ r ∈ Venn.allC u, r.length = 8 from fun r hr => ((Venn.mem_allC hu r).1 hr).1)
  generalize Venn.allC u = LL at HLEN HP HA H8 ⊢
  clear hu
  go_enter Tryz.func46, Tryz.ntmps46
  go_wp2_with fail
  refine (HA.out _).mono ?_
  rintro e w1 ⟨v1, rfl, hb1, O1⟩
  obtain ⟨V1, c1, rfl⟩ := ownsRow_slice O1
  have HO := Lib.hid O1
  have HL := Lib.hid (show LL.length ≤ 90000 from HLEN.out)
  have hlen := HLEN.out
  clear O1
  go_wp2
  go_loopw [4, 5] (fun o i wr => ∃ k : Nat, k ≤ LL.length ∧ i = .int .i64 k ∧ Below w.heap.size w wr ∧ Below w1.heap.size w1 wr ∧ wr.ownsRow w1.heap.size 45 4 o k (wCells ((LL.take k).map Venn.made))) (fun _ i _ => LL.length - (intOf i).toNat)
  case atStart => exact ⟨0, Nat.zero_le _, rfl, hb1, Below.refl _ _, by rw [List.take_zero]; exact World.ownsRow_nil _ _ _ _⟩
  case round =>
    obtain ⟨k, hk, rfl, hb, hb1', hown⟩ := hrel
    obtain ⟨wo, rfl⟩ : ∃ wo : World, wo = wr := ⟨_, rfl⟩
    obtain ⟨V2, c2, rfl⟩ := ownsRow_slice hown
    have HW := Lib.hid hown
    clear hown
    by_cases hlt : k < LL.length
    · have hk1 : (k : Int) < (LL.length : Int) := by omega
      have hk0 : (0 : Int) ≤ (k : Int) := by omega
      have hx := List.getElem?_eq_getElem hlt
      obtain ⟨a0, a1, a2, a3, a4, a5, a6, a7, hxe, hp, hs⟩ := HP.out LL[k] (List.getElem_mem hlt)
      have HT := Lib.hid (show (LL.take (k + 1)).map Venn.made = (LL.take k).map Venn.made ++ [Venn.made [a0, a1, a2, a3, a4, a5, a6, a7]] by rw [List.take_succ_eq_append_getElem hlt, List.map_append, hxe]; rfl)
      rw [hxe] at hx
      obtain ⟨g, rfl, d0, d1, d2, d3, d4, d5, d6, d7⟩ := own_eight HO.out H8.out hx
      replace d0 := cell_keep hb1' d0
      replace d1 := cell_keep hb1' d1
      replace d2 := cell_keep hb1' d2
      replace d3 := cell_keep hb1' d3
      replace d4 := cell_keep hb1' d4
      replace d5 := cell_keep hb1' d5
      replace d6 := cell_keep hb1' d6
      replace d7 := cell_keep hb1' d7
      have HM := Lib.hid (fun W => ref_Made a0 a1 a2 a3 a4 a5 a6 a7 W hp (by rw [hs]; exact hu6.2))
      clear hx hxe hp hs
      generalize Venn.made [a0, a1, a2, a3, a4, a5, a6, a7] = X at HM HT
      obtain ⟨th, a, b, c⟩ := X
      go_wp2_with fail
      refine (HM.out _).mono ?_
      rintro e w2 ⟨rfl, hb2⟩
      have hw2 := HW.out
      go_upto_region 7 with (fail)
      have BX := Blk.new w2 45 #[.int .i64 th, .int .i64 a, .int .i64 b, .int .i64 c]
      obtain ⟨c0, c1', c2', c3⟩ := BX.cells4
      have hsz := hb2.size
      have hsz0 := hb1'.size
      have HR := Lib.hid (show Rd ((w2.alloc (.cells #[.int .i64 th, .int .i64 a, .int .i64 b, .int .i64 c] 45)).alloc (.cells #[.int .i64 th, .int .i64 a, .int .i64 b, .int .i64 c] 45)) (some ⟨w2.heap.size + 1, 0, none⟩) (wCells [⟨th, a, b, c⟩]) from rdBlk (Blk.newAt (by simp) _ _))
      have HOW := Lib.hid ((((own_below HW.out hb2).alloc (.cells #[.int .i64 th, .int .i64 a, .int .i64 b, .int .i64 c] 45)).alloc (.cells #[.int .i64 th, .int .i64 a, .int .i64 b, .int .i64 c] 45)))
      clear d0 d1 d2 d3 d4 d5 d6 d7 hw2
      go_wp2_with (at_builtin; refine wpList_appW _ rfl _ _ rfl w1.heap.size _ k _ rfl HOW.out ⟨w2.heap.size + 1, 0, none⟩ 1 [⟨th, a, b, c⟩] rfl HR.out (by simp; omega) (by simp; omega) ?_)
      intro v3 w3 hown3 hg3
      have hl3 : Below w1.heap.size w1 w3 := (((Below.next hb1' hb2).alloc (by have := (Below.next hb1' hb2).size; omega) _).alloc (by have := (Below.next hb1' hb2).size; simp; omega) _).grown hg3 (by simp; omega) (fun g hg => (HW.out.lt g hg).1)
      have hl3' : Below w.heap.size w w3 := Below.next hb1 hl3
      go_wp2
      go_roundw
      case rel => exact ⟨k + 1, by omega, by go_num, hl3', hl3, by rw [HT.out, wCells_app]; simpa using hown3⟩
      case measure => simp [intOf]; omega
    · have hk' : k = LL.length := by omega
      subst hk'
      have HWW := Lib.hid (own_base HW.out (show w.heap.size ≤ w1.heap.size from hb1.size))
      rw [List.take_length] at HWW
      go_wp2
      go_ret
      exact ⟨_, rfl, hb, HWW.out⟩
end Go.Proofs.YtjnjgcibhjdmdaaGreatDoor

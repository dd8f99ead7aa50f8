/-
  THE WALKS of cubes.add, checked, both, one.
-/
import Derived.Test.YtlpfbdejiifbpaaGreatDoorMerge
namespace Go.Proofs.YtlpfbdejiifbpaaGreatDoor
open Go.RowKit

theorem OwnL.rd {base : Nat} {w : World} {A : Option Addr} {n c : Nat} {p : List LV} (h : OwnL base w (.slice A n c) p) : Rd w A (lCells p) := by
  have hh := h.own
  intro j u hj
  rcases hh.2 with ⟨h1, h0⟩ | ⟨g, cap, cur, h1, _⟩
  · have hp : p = [] := List.eq_nil_of_length_eq_zero h0
    subst hp
    simp [lCells] at hj
  · injection h1 with h1 h2 h3
    subst h1
    exact ⟨_, rfl, hh.cells (g := g) rfl j u hj⟩
set_option maxHeartbeats 1000000 in
theorem add_same (x : List Int) (xv : Value) (l : List Int) (lv : Value) (b : Nat) (w : World) (hb : w.cell? ⟨b, 0, none⟩ = some lv) (hx : IsInts w xv x) (hl : IsInts w lv l) : Calls Tryz.prog 120 #[xv, .pointer (some ⟨b, 0, none⟩)] w (Keeps (.bool (x == l)) w) := by
  have HC := Lib.hid (slices_Equal xv lv x l w hx hl)
  obtain ⟨A, c, rfl, _⟩ := hx
  obtain ⟨B, d, rfl, _⟩ := hl
  generalize (x == l) = E at HC ⊢
  go_enter Tryz.func120, Tryz.ntmps120
  go_wp2_with (go_at_call 121; refine (HC.out).mono ?_; rintro e w1 ⟨rfl, hb1⟩)
  go_ret
  exact ⟨rfl, hb1⟩
theorem any_beq (p : List LV) (c : List Int) : (p.any fun x => x.1 == c) = (lVals p).contains c := by
  unfold lVals
  induction p with
  | nil => rfl
  | cons x r ih =>
    simp only [List.any_cons, List.map_cons, List.contains_cons, ih]
    rw [show (x.1 == c) = (c == x.1) from Bool.eq_iff_iff.2 (by rw [beq_iff_eq, beq_iff_eq]; exact ⟨Eq.symm, Eq.symm⟩)]

/-- The lists do not lie in block B. -/
def Off (B : Nat) (p : List LV) : Prop := ∀ x ∈ p, x.1 ≠ [] → ∀ b, x.2.ownBlock = some b → b ≠ B
/-- A slice that reads as L, none of it in block B. -/
def ListsOff (B : Nat) (w : World) (v : Value) (L : List (List Int)) : Prop :=
  ∃ A c p, v = .slice A p.length c ∧ lVals p = L ∧ Rd w A (lCells p) ∧ LOk w p ∧ p.length ≤ c ∧ c ≤ maxLen ∧ Off B p ∧ (p ≠ [] → ∀ b, v.ownBlock = some b → b ≠ B)
theorem ListsOff.lists {B : Nat} {w : World} {v : Value} {L : List (List Int)} (h : ListsOff B w v L) : IsLists w v L := by
  obtain ⟨A, c, p, h1, h2, h3, h4, h5, h6, _⟩ := h
  exact ⟨A, c, p, h1, h2, h3, h4, h5, h6⟩
theorem ListsOff.keep {B : Nat} {w w' : World} {v : Value} {L : List (List Int)} (h : ListsOff B w v L) (hb : Below w.heap.size w w') : ListsOff B w' v L := by
  obtain ⟨A, c, p, h1, h2, h3, h4, h5, h6, h7, h8⟩ := h
  exact ⟨A, c, p, h1, h2, h3.keep hb, h4.keep hb, h5, h6, h7, h8⟩
theorem ListsOff.but {B : Nat} {w w' : World} {v : Value} {L : List (List Int)} (h : ListsOff B w v L) (hb : But (fun b => b = B) w w') : ListsOff B w' v L := by
  obtain ⟨A, c, p, rfl, h2, h3, h4, h5, h6, h7, h8⟩ := h
  refine ⟨A, c, p, rfl, h2, fun j u hj => ?_, fun x hx => (h4 x hx).but' hb (h7 x hx), h5, h6, h7, h8⟩
  obtain ⟨ad, rfl, hcell⟩ := h3 j u hj
  refine ⟨ad, rfl, cell_but hb hcell ?_⟩
  rw [block_of_add]
  refine h8 ?_ _ rfl
  intro e
  subst e
  simp [lCells] at hj
theorem ListsOff.of_own {B base : Nat} {w : World} {v : Value} {p : List LV} (h : OwnL base w v p) (ho : Off B p) (hB : B < base) : ListsOff B w v (lVals p) := by
  obtain ⟨A, c, e⟩ := h.slice
  subst e
  refine ⟨A, c, p, rfl, rfl, h.rd, h.ok, ?_, ?_, ho, fun _ b e => ?_⟩
  · rcases h.own.2 with ⟨h1, h0⟩ | ⟨g, cap, cur, h1, _, _, h2, _⟩
    · omega
    · injection h1 with _ _ h1; omega
  · rcases h.own.2 with ⟨h1, h0⟩ | ⟨g, cap, cur, h1, _, _, _, h2, _⟩
    · injection h1 with _ _ h1; rw [h1]; simp [maxLen]
    · injection h1 with _ _ h1; omega
  · have := (h.own.lt b e).1
    omega
def AddPost (base : Nat) (v : Value) (p : List LV) (y : LV) (L : List (List Int)) (w : World) (e : Ending) (w' : World) : Prop :=
  ∃ v' p', e = .returned v' ∧ OwnL base w' v' p' ∧ lVals p' = L ∧ (∀ x ∈ p', x ∈ p ∨ x = y) ∧ But (fun b => v.ownBlock = some b) w w' ∧ (v'.ownBlock = v.ownBlock ∨ ∀ b, v'.ownBlock = some b → w.heap.size ≤ b)
set_option maxHeartbeats 2000000 in
theorem cubes_add (base : Nat) (v : Value) (p : List LV) (y : LV) (w : World) (hown : OwnL base w v p) (hy : IsInts w y.2 y.1) (hf : y.1 ≠ [] → ∀ b, y.2.ownBlock = some b → v.ownBlock ≠ some b) (hn : p.length < 100000) (hbase : base ≤ w.heap.size) :
    Calls Tryz.prog 105 #[v, y.2] w (AddPost base v p y (Venn.putV (lVals p) y.1) w) := by
  obtain ⟨c, yv⟩ := y
  simp only at hy hf ⊢
  obtain ⟨A, k, rfl⟩ := hown.slice
  have hb0 : Below w.heap.size w (w.alloc (.cells #[yv] 23)) := by (repeat' (first | (with_reducible exact Below.refl _ _) | (with_reducible assumption) | (with_reducible refine Below.next ?_ (by with_reducible assumption)) | (with_reducible refine Below.drew ?_) | (with_reducible refine Below.laid ?_ _) | (with_reducible refine Below.setCell ?_ ?_ _) | (with_reducible refine size_of ?_) | (with_reducible refine Nat.le_succ_of_le ?_) | go_size))
  have B0 := Blk.new w 23 #[yv]
  have hone := ints_one hy
  have HO := Lib.hid (hown.keep hb0)
  have HY := Lib.hid (hy.keep hb0)
  have hr : Rd (w.alloc (.cells #[yv] 23)) A (lCells p) := HO.out.rd
  have HC := Lib.hid (containsFunc_lists 120 #[.pointer (some ⟨w.heap.size, 0, none⟩)] (enters_of Tryz.func120 (by kernel_rfl) rfl) A k p (fun x => x == c) _ hr
    (fun x hx W hW => add_same x.1 x.2 c yv w.heap.size W (cell_keep hW (B0.cell 0)) ((HO.out.ok x hx).keep hW) (HY.out.keep hW)) (by unfold maxLen; omega))
  rw [any_beq] at HC
  obtain ⟨B, d, rfl, hyy⟩ := hy
  clear hyy hr
  have HF := Lib.hid hf
  clear hown hf
  by_cases hin : (lVals p).contains c = true
  · have HP := Lib.hid (show Venn.putV (lVals p) c = lVals p by unfold Venn.putV; rw [if_pos hin])
    rw [hin] at HC
    clear hin B0
    go_enter Tryz.func105, Tryz.ntmps105
    go_wp2_with (go_at_call 46; refine (HC.out).mono ?_; rintro e w1 ⟨rfl, hb1⟩)
    go_ret
    exact ⟨_, p, rfl, HO.out.keep hb1, HP.out.symm, fun x hx => .inl hx, But.of_below (Below.next hb0 hb1), .inl rfl⟩
  · have HP := Lib.hid (show Venn.putV (lVals p) c = lVals p ++ [c] by unfold Venn.putV; rw [if_neg hin])
    rw [Bool.not_eq_true] at hin
    rw [hin] at HC
    clear hin
    have HB := Lib.hid B0
    clear B0
    go_enter Tryz.func105, Tryz.ntmps105
    go_wp2_with fail
    refine (HC.out).mono ?_
    rintro e w1 ⟨rfl, hb1⟩
    have B1 := (HB.out.keep hb1).cell 0
    have hq := Below.next hb0 hb1
    have hsz : base ≤ w1.heap.size := Nat.le_trans hbase hq.size
    have HO1 := Lib.hid (HO.out.keep hb1)
    have HY1 := Lib.hid (HY.out.keep hb1)
    simp at B1
    go_upto_region 3 with (fail)
    have hb2 : Below w1.heap.size w1 (w1.alloc (.cells #[.slice B c.length d] 23)) := by (repeat' (first | (with_reducible exact Below.refl _ _) | (with_reducible assumption) | (with_reducible refine Below.next ?_ (by with_reducible assumption)) | (with_reducible refine Below.drew ?_) | (with_reducible refine Below.laid ?_ _) | (with_reducible refine Below.setCell ?_ ?_ _) | (with_reducible refine size_of ?_) | (with_reducible refine Nat.le_succ_of_le ?_) | go_size))
    have B2 := (Blk.new w1 23 #[.slice B c.length d]).cell 0
    go_wp2_with (at_builtin; refine wpList_appL _ rfl _ _ rfl base _ p rfl (HO1.out.keep hb2) w1.heap.size 1 (c, .slice B c.length d) rfl B2 (HY1.out.keep hb2) HF.out (by omega) (Nat.le_trans hsz hb2.size) ?_)
    intro v' w3 hown3 hg3 hat3
    have hq2 := Below.next hq hb2
    have hbut : But (fun b => (Value.slice A p.length k).ownBlock = some b) w w3 := (But.of_below hq2).trans (But.of_grown hg3)
    have hs2 := hq2.size
    go_wp2
    go_ret
    refine ⟨v', _, rfl, hown3, by rw [lVals_app, HP.out]; rfl, fun x hx => (List.mem_append.1 hx).imp id (fun h => List.mem_singleton.1 h), hbut, ?_⟩
    rcases hat3 with h | h
    · exact .inl h
    · refine .inr fun b e => ?_
      rw [h] at e
      injection e with e
      have hs3 : (w1.alloc (.cells #[.slice B c.length d] 23)).heap.size = w1.heap.size + 1 := by simp
      omega

theorem cubes_checked (v : Value) (n c : Nat) (A : Option Addr) (hv : v = .slice A n c) (w : World) : Calls Tryz.prog 106 #[v] w (Pure (if 40 < n then .tuple #[.slice none 0 0, errV 4] else .tuple #[v, errV 0]) w) := by
  subst hv
  by_cases h : 40 < n
  · rw [if_pos h, errV_ne (by decide)]
    have h' : (40 : Int) < (n : Int) := by omega
    go_enter Tryz.func106, Tryz.ntmps106
    go_wp2
    go_ret2
    exact ⟨rfl, rfl⟩
  · rw [if_neg h, errV_zero rfl]
    have h' : ¬ (40 : Int) < (n : Int) := by omega
    go_enter Tryz.func106, Tryz.ntmps106
    go_wp2
    go_ret2
    exact ⟨rfl, rfl⟩

theorem and1_grow {x : List Int} : ∀ (b o : List (List Int)), o.length ≤ (Venn.and1 x o b).length := by
  intro b
  induction b with
  | nil => intro o; exact Nat.le_refl _
  | cons y r ih =>
    intro o
    rw [Venn.and1]
    cases hj : Venn.joinV x y with
    | none => exact ih o
    | some c => exact Nat.le_trans (Venn.putV_len o c).2 (ih _)
theorem and2_grow {b : List (List Int)} : ∀ (a o : List (List Int)), o.length ≤ (Venn.and2 b o a).length := by
  intro a
  induction a with
  | nil => intro o; exact Nat.le_refl _
  | cons y r ih => intro o; exact Nat.le_trans (and1_grow _ _) (ih _)
theorem lVals_at {p : List LV} {k : Nat} {x : LV} (h : p[k]? = some x) : (lVals p).drop k = x.1 :: (lVals p).drop (k + 1) := by
  obtain ⟨hk, rfl⟩ := List.getElem?_eq_some_iff.1 h
  have : k < (lVals p).length := by rw [lVals_len]; exact hk
  rw [List.drop_eq_getElem_cons this]
  simp [lVals]
theorem lVals_mem {p : List LV} {x : LV} (h : x ∈ p) : x.1 ∈ lVals p := List.mem_map_of_mem h
/-- What a function answers that makes cubes: the list, or that there would be too many. -/
def CubesPost (B : Nat) (J : Option (List (List Int))) (w : World) (e : Ending) (w' : World) : Prop :=
  Below w.heap.size w w' ∧ ((J = none ∧ e = .returned (.tuple #[.slice none 0 0, errV 4])) ∨ ∃ v p, J = some (lVals p) ∧ e = .returned (.tuple #[v, errV 0]) ∧ OwnL w.heap.size w' v p ∧ Off B p)
/-- A row of the call's own between two rounds. -/
structure RowAt (w wr : World) (v : Value) (p : List LV) : Prop where
  own : OwnL w.heap.size wr v p
  below : Below w.heap.size w wr
theorem RowAt.add {w wr w2 : World} {v v' : Value} {p p' : List LV} (h : RowAt w wr v p) (hown : OwnL w.heap.size w2 v' p') (hb : But (fun b => v.ownBlock = some b) wr w2) : RowAt w w2 v' p' :=
  ⟨hown, h.below.trans (hb.below h.below.size fun b e => (h.own.own.lt b e).1)⟩
theorem RowAt.keep {w wr w2 : World} {v : Value} {p : List LV} (h : RowAt w wr v p) (hb : Below wr.heap.size wr w2) : RowAt w w2 v p := ⟨h.own.keep hb, Below.next h.below hb⟩
set_option maxHeartbeats 4000000 in
set_option maxRecDepth 100000 in
theorem cubes_both (O : Nat) (sa sb : Value) (la lb : List (List Int)) (w : World) (hO : O < w.heap.size) (ha : IsLists w sa la) (hb : IsLists w sb lb) (h1 : la.length ≤ 40) (h2 : lb.length ≤ 40) (ma : ∀ c ∈ la, ∀ x ∈ c, Venn.mOk x = true) (mb : ∀ c ∈ lb, ∀ x ∈ c, Venn.mOk x = true)
    (na : ∀ c ∈ la, c.length ≤ 100) (nb : ∀ c ∈ lb, c.length ≤ 100) :
    Calls Tryz.prog 86 #[sa, sb] w (CubesPost O (Venn.andV la lb) w) := by
  obtain ⟨A, ca, pa, rfl, rfl, hra, hoa, _, _⟩ := ha
  obtain ⟨B, cb, pb, rfl, rfl, hrb, hob, _, _⟩ := hb
  have HRA := Lib.hid hra
  have HRB := Lib.hid hrb
  have HOA := Lib.hid hoa
  have HOB := Lib.hid hob
  have HMA := Lib.hid ma
  have HMB := Lib.hid mb
  have HNA := Lib.hid na
  have HNB := Lib.hid nb
  rw [lVals_len] at h1 h2
  have HJ := Lib.hid (show Venn.and2 (lVals pb) [] (lVals pa) = Venn.and2 (lVals pb) [] ((lVals pa).drop 0) by rw [List.drop_zero])
  have HL := Lib.hid (show (Venn.and2 (lVals pb) [] (lVals pa)).length ≤ 1600 by
    have := Venn.and2_len (b := lVals pb) (lVals pa) []
    rw [lVals_len, lVals_len, List.length_nil, Nat.zero_add] at this
    exact Nat.le_trans this (Nat.le_trans (Nat.mul_le_mul h1 h2) (by decide)))
  unfold Venn.andV
  generalize Venn.and2 (lVals pb) [] (lVals pa) = R at HJ HL ⊢
  clear hra hrb hoa hob ma mb na nb
  go_enter Tryz.func86, Tryz.ntmps86
  go_upto_region 2 with (fail)
  go_wp2
  go_loopw [6, 15] (fun v i wr => ∃ (k : Nat) (p : List LV), k ≤ pa.length ∧ i = .int .i64 k ∧ RowAt w wr v p ∧ Off O p ∧ R = Venn.and2 (lVals pb) (lVals p) ((lVals pa).drop k)) (fun _ i _ => pa.length - (intOf i).toNat)
  case atStart => exact ⟨0, [], Nat.zero_le _, rfl, ⟨OwnL.nil _ _, Below.refl _ _⟩, (fun x hx => by cases hx), HJ.out⟩
  case round =>
    obtain ⟨k, p, hk, rfl, hrow, hoff, hR⟩ := hrel
    obtain ⟨wo, rfl⟩ : ∃ wo : World, wo = wr := ⟨_, rfl⟩
    obtain ⟨V0, k0, rfl⟩ := hrow.own.slice
    have HW := Lib.hid hrow
    have HF := Lib.hid hoff
    have hbw := hrow.below
    clear hrow hoff
    by_cases hlt : k < pa.length
    · obtain ⟨⟨x, xv⟩, hx⟩ : ∃ x, pa[k]? = some x := ⟨pa[k], List.getElem?_eq_getElem hlt⟩
      obtain ⟨ad, rfl, hc0⟩ := HRA.out k xv (by unfold lCells; rw [List.getElem?_map, hx]; rfl)
      have hc := cell_keep hbw hc0
      have HXV := Lib.hid (HOA.out _ (List.mem_of_getElem? hx))
      have HMX := Lib.hid (HMA.out _ (lVals_mem (List.mem_of_getElem? hx)))
      have HNX := Lib.hid (HNA.out _ (lVals_mem (List.mem_of_getElem? hx)))
      rw [lVals_at hx, Venn.and2] at hR
      have HR := Lib.hid (show R = Venn.and2 (lVals pb) (Venn.and1 x (lVals p) ((lVals pb).drop 0)) ((lVals pa).drop (k + 1)) by rw [List.drop_zero]; exact hR)
      have hk1 : (k : Int) < (pa.length : Int) := by omega
      have hk0 : (0 : Int) ≤ (k : Int) := by omega
      simp only at HXV HMX HNX
      clear hR hx hc0
      go_upto_region 5 with (fail)
      clear hc
      go_wp2
      go_loopw [6, 21] (fun v i wr => ∃ (j : Nat) (p : List LV), j ≤ pb.length ∧ i = .int .i64 j ∧ RowAt w wr v p ∧ Off O p ∧ R = Venn.and2 (lVals pb) (Venn.and1 x (lVals p) ((lVals pb).drop j)) ((lVals pa).drop (k + 1))) (fun _ i _ => pb.length - (intOf i).toNat)
      case atStart => exact ⟨0, p, Nat.zero_le _, rfl, HW.out, HF.out, HR.out⟩
      case round =>
        clear HW HR hbw HF
        obtain ⟨j, q, hj, rfl, hrow, hoff, hR⟩ := hrel
        obtain ⟨w1, rfl⟩ : ∃ w1 : World, w1 = wr := ⟨_, rfl⟩
        obtain ⟨V1, k1, rfl⟩ := hrow.own.slice
        have HW := Lib.hid hrow
        have HF := Lib.hid hoff
        have hbw := hrow.below
        clear hrow hoff
        by_cases hlj : j < pb.length
        · obtain ⟨⟨y, yv⟩, hy⟩ : ∃ x, pb[j]? = some x := ⟨pb[j], List.getElem?_eq_getElem hlj⟩
          obtain ⟨bd, rfl, hd0⟩ := HRB.out j yv (by unfold lCells; rw [List.getElem?_map, hy]; rfl)
          have hd := cell_keep hbw hd0
          have HYV := Lib.hid (HOB.out _ (List.mem_of_getElem? hy))
          have HMY := Lib.hid (HMB.out _ (lVals_mem (List.mem_of_getElem? hy)))
          have HNY := Lib.hid (HNB.out _ (lVals_mem (List.mem_of_getElem? hy)))
          rw [lVals_at hy, Venn.and1] at hR
          have hj1 : (j : Int) < (pb.length : Int) := by omega
          have hj0 : (0 : Int) ≤ (j : Int) := by omega
          simp only at HYV HMY HNY
          have HR := Lib.hid hR
          have HM := Lib.hid (cubes_merge xv yv x y w1 (HXV.out.keep hbw) (HYV.out.keep hbw) HNX.out HNY.out HMX.out HMY.out)
          generalize Venn.joinV x y = J at HM HR
          clear hR hy hd0 hbw
          go_wp2_with fail
          clear hd
          refine (HM.out).mono ?_
          rintro e w2 ⟨hb2, ⟨rfl, rfl⟩ | ⟨c, v, rfl, rfl, hI, hlt2⟩⟩
          · have HW2 := Lib.hid (HW.out.keep hb2)
            clear HW hb2
            go_wp2
            go_roundw
            case rel => exact ⟨j + 1, q, by omega, by go_num, HW2.out, HF.out, HR.out⟩
            case measure => simp [intOf]; omega
          · have hq := HW.out.own.own
            have HW2 := Lib.hid (HW.out.keep hb2)
            have hlen : q.length < 100000 := by
              have h1 := HL.out
              rw [HR.out] at h1
              have h2 := Nat.le_trans (and1_grow (x := x) ((lVals pb).drop (j + 1)) (Venn.putV (lVals q) c)) (and2_grow (b := lVals pb) ((lVals pa).drop (k + 1)) _)
              have h3 := (Venn.putV_len (lVals q) c).2
              rw [lVals_len] at h3
              simp only at h1
              omega
            have hbase : w.heap.size ≤ w2.heap.size := HW2.out.below.size
            have HA := Lib.hid (cubes_add w.heap.size _ q (c, v) w2 HW2.out.own hI (fun _ b e => by
              intro e2
              have h1 := (hlt2 b e).1
              have h2 := (hq.lt b e2).2
              omega) hlen hbase)
            simp only at HA
            have HFY := Lib.hid (show ∀ b, v.ownBlock = some b → b ≠ O from fun b e => by have h1 := (hlt2 b e).1; have h2 := HW.out.below.size; omega)
            clear HW hb2 hI hlt2 hq hlen hbase
            go_wp2_with fail
            refine (HA.out).mono ?_
            rintro e w3 ⟨v', p', rfl, ho3, hp3, hmem, hbut, _⟩
            have HF3 := Lib.hid (show Off O p' from fun x hx hne b e => (hmem x hx).elim (fun h => HF.out x h hne b e) (fun h => HFY.out b (by rw [h] at e; exact e)))
            clear hmem
            have HW3 := Lib.hid (HW2.out.add ho3 hbut)
            have HR3 := Lib.hid (show R = Venn.and2 (lVals pb) (Venn.and1 x (lVals p') ((lVals pb).drop (j + 1))) ((lVals pa).drop (k + 1)) by rw [hp3]; exact HR.out)
            clear HW2 ho3 hp3 hbut
            go_wp2
            go_roundw
            case rel => exact ⟨j + 1, p', by omega, by go_num, HW3.out, HF3.out, HR3.out⟩
            case measure => simp [intOf]; omega
        · have hj' : j = pb.length := by omega
          have HR := Lib.hid (show R = Venn.and2 (lVals pb) (lVals q) ((lVals pa).drop (k + 1)) by rw [hR, hj', List.drop_eq_nil_of_le (by rw [lVals_len]; exact Nat.le_refl _)]; rfl)
          subst hj'
          clear hR hbw
          go_wp2
          go_roundw
          case rel => exact ⟨k + 1, q, by omega, by go_num, HW.out, HF.out, HR.out⟩
          case measure => simp [intOf]; omega
    · have hk' : k = pa.length := by omega
      have HR := Lib.hid (show R = lVals p by rw [hR, hk', List.drop_eq_nil_of_le (by rw [lVals_len]; exact Nat.le_refl _)]; rfl)
      subst hk'
      clear hR
      have hlR : R.length = p.length := by rw [HR.out, lVals_len]
      by_cases h40 : 40 < p.length
      · have HC := Lib.hid (show Venn.chkC R = none by unfold Venn.chkC; rw [if_pos (by omega)])
        clear hlR
        go_wp2_with fail
        refine (cubes_checked _ _ _ _ rfl _).mono ?_
        rintro e w2 ⟨rfl, rfl⟩
        rw [if_pos h40]
        go_wp2
        go_ret2
        exact ⟨hbw, .inl ⟨HC.out, rfl⟩⟩
      · have HC := Lib.hid (show Venn.chkC R = some (lVals p) by unfold Venn.chkC; rw [if_neg (by omega), HR.out])
        clear hlR
        go_wp2_with fail
        refine (cubes_checked _ _ _ _ rfl _).mono ?_
        rintro e w2 ⟨rfl, rfl⟩
        rw [if_neg h40]
        go_wp2
        go_ret2
        exact ⟨hbw, .inr ⟨_, p, HC.out, rfl, HW.out.own, HF.out⟩⟩
end Go.Proofs.YtlpfbdejiifbpaaGreatDoor

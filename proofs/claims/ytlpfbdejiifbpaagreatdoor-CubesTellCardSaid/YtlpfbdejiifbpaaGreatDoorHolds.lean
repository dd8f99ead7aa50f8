/-
  THE WALKS of cubes.Of, and of cubes.holds and Holds with their closures.
-/
import Derived.Test.YtlpfbdejiifbpaaGreatDoorCubesOf
import Derived.Test.YtlpfbdejiifbpaaGreatDoorFormTrue
namespace Go.Proofs.YtlpfbdejiifbpaaGreatDoor
open Go.RowKit

def OfPost (f : Venn.Form) (w : World) (e : Ending) (w' : World) : Prop :=
  Below w.heap.size w w' ∧ ∃ v, e = .returned (.tuple #[v, errV (Venn.cubesErr f)]) ∧ IsLists w' v (Venn.cubesV f)
set_option maxHeartbeats 1000000 in
theorem cubes_Of (sa sc : Value) (l : List Venn.Atom) (c : List Int) (w : World) (ha : IsAtoms w sa l) (hc : IsInts w sc c) (hk : KindsOk w) :
    Calls Tryz.prog 12 #[.agg #[sa, sc]] w (OfPost ⟨l, c⟩ w) := by
  have hb0 : Below w.heap.size w (w.alloc (.cells #[sa, sc] 25)) := by (repeat' (first | (with_reducible exact Below.refl _ _) | (with_reducible assumption) | (with_reducible refine Below.next ?_ (by with_reducible assumption)) | (with_reducible refine Below.drew ?_) | (with_reducible refine Below.laid ?_ _) | (with_reducible refine Below.setCell ?_ ?_ _) | (with_reducible refine size_of ?_) | (with_reducible refine Nat.le_succ_of_le ?_) | go_size))
  have HCH := Lib.hid (form_Check sa sc l c _ (ha.keep hb0) (hc.keep hb0) (hk.keep hb0))
  have B0 := Lib.hid (Blk.new w 25 #[sa, sc])
  have b0 := (B0.out).cell 0
  have b1 := (B0.out).cell 1
  simp at b0 b1
  by_cases hz : Venn.formChk ⟨l, c⟩ = 0
  · obtain ⟨p1, p2, p3, h20, p5, p6, p7⟩ := Venn.formChk_parts hz
    have HA := Lib.hid (fun W (hW : Below w.heap.size w W) => cubes_All sa sc (l.length : Int) c W (hc.keep hW) h20 p6 p7)
    rw [errV_zero hz] at HCH
    cases hJ : Venn.cubesO c with
    | none =>
      have HE := Lib.hid (show Venn.cubesErr ⟨l, c⟩ = 4 ∧ Venn.cubesV ⟨l, c⟩ = [] by unfold Venn.cubesErr Venn.cubesV; rw [if_pos hz, if_pos hz, hJ]; exact ⟨rfl, rfl⟩)
      rw [hJ] at HA
      clear hz hJ p1 p2 p3 h20 p5 p6 p7 hk
      obtain ⟨A, cA, rfl, _⟩ := ha
      obtain ⟨C, cC, rfl, _⟩ := hc
      go_enter Tryz.func12, Tryz.ntmps12
      go_wp2_with fail
      refine (HCH.out).mono ?_
      rintro e w1 ⟨rfl, hb1⟩
      have hq := Below.next hb0 hb1
      clear b0 b1
      have B1 := B0.out.keep hb1
      have b0 := B1.cell 0
      have b1 := B1.cell 1
      simp at b0 b1
      go_wp2_with fail
      refine (HA.out _ hq).mono ?_
      rintro e w2 ⟨hb2, ⟨_, rfl⟩ | ⟨_, _, h, _⟩⟩
      · have hq2 := Below.next hq hb2
        go_wp2
        go_ret2
        exact ⟨hq2, _, by rw [HE.out.1]; rfl, by rw [HE.out.2]; exact IsLists.nil _⟩
      · cases h
    | some L =>
      have HE := Lib.hid (show Venn.cubesErr ⟨l, c⟩ = 0 ∧ Venn.cubesV ⟨l, c⟩ = L by unfold Venn.cubesErr Venn.cubesV; rw [if_pos hz, if_pos hz, hJ]; exact ⟨rfl, rfl⟩)
      rw [hJ] at HA
      clear hz hJ p1 p2 p3 h20 p5 p6 p7 hk
      obtain ⟨A, cA, rfl, _⟩ := ha
      obtain ⟨C, cC, rfl, _⟩ := hc
      go_enter Tryz.func12, Tryz.ntmps12
      go_wp2_with fail
      refine (HCH.out).mono ?_
      rintro e w1 ⟨rfl, hb1⟩
      have hq := Below.next hb0 hb1
      clear b0 b1
      have B1 := B0.out.keep hb1
      have b0 := B1.cell 0
      have b1 := B1.cell 1
      simp at b0 b1
      go_wp2_with fail
      refine (HA.out _ hq).mono ?_
      rintro e w2 ⟨hb2, ⟨h, _⟩ | ⟨v, L', h, rfl, hI⟩⟩
      · cases h
      · injection h with h
        subst h
        have hq2 := Below.next hq hb2
        go_wp2
        go_ret2
        exact ⟨hq2, _, by rw [HE.out.1]; rfl, by rw [HE.out.2]; exact hI⟩
  · have HE := Lib.hid (show errV (Venn.cubesErr ⟨l, c⟩) = errV (Venn.formChk ⟨l, c⟩) ∧ Venn.cubesV ⟨l, c⟩ = [] by unfold Venn.cubesErr Venn.cubesV; rw [if_neg hz, if_neg hz]; exact ⟨rfl, rfl⟩)
    rw [errV_ne hz] at HCH HE
    generalize Venn.formChk ⟨l, c⟩ = E at HCH HE
    clear hz hk
    obtain ⟨A, cA, rfl, _⟩ := ha
    obtain ⟨C, cC, rfl, _⟩ := hc
    go_enter Tryz.func12, Tryz.ntmps12
    go_wp2_with fail
    refine (HCH.out).mono ?_
    rintro e w1 ⟨rfl, hb1⟩
    have hq := Below.next hb0 hb1
    go_wp2
    go_ret2
    exact ⟨hq, _, by rw [HE.out.1]; rfl, by rw [HE.out.2]; exact IsLists.nil _⟩

set_option maxHeartbeats 2000000 in
set_option maxRecDepth 100000 in
theorem lit_fn (m : Int) (f g : Nat) (sa sc : Value) (l : List Venn.Atom) (th a b d : Int) (w : World) (hF : Blk w f 25 #[sa, sc]) (hG : Blk w g 29 #[.int .i64 th, .int .i64 a, .int .i64 b, .int .i64 d])
    (ha : IsAtoms w sa l) (hk : KindsOk w) (hat : ∀ x ∈ l, Venn.atomChk x = 0) (hw : Venn.worldChk ⟨th, a, b, d⟩ = 0) (hl : l.length ≤ 6) (hm : m ≠ 0 ∧ -(l.length : Int) ≤ m ∧ m ≤ l.length) :
    Calls Tryz.prog 75 #[.int .i64 m, .pointer (some ⟨f, 0, none⟩), .pointer (some ⟨g, 0, none⟩)] w (Keeps (.bool (!Venn.litV (Venn.valA l ⟨th, a, b, d⟩) m)) w) := by
  obtain ⟨A, cA, rfl, hra, _, _⟩ := ha
  obtain ⟨X, hX⟩ : ∃ X : Nat, (X : Int) = Venn.absI m - 1 := ⟨(Venn.absI m - 1).toNat, by unfold Venn.absI; split <;> omega⟩
  have hXl : X < l.length := by unfold Venn.absI at hX; split at hX <;> omega
  have hfar : farW m = (X : Int) + 1 := by rw [farW_abs (Venn.mOk_iff.2 (by omega))]; omega
  obtain ⟨⟨aw, aS, aT, an⟩, hx⟩ : ∃ x, l[X]? = some x := ⟨l[X], List.getElem?_eq_getElem hXl⟩
  obtain ⟨ad, sv, tv, rfl, g0, g1, g2, g3, hs, ht⟩ := hra X _ hx
  have hat1 := hat _ (List.mem_of_getElem? hx)
  have hval : Venn.valA l ⟨th, a, b, d⟩ (Venn.absI m) = Venn.atomTrue ⟨aw, aS, aT, an⟩ ⟨th, a, b, d⟩ := by
    unfold Venn.valA
    rw [show (Venn.absI m - 1).toNat = X by omega, hx]
  have HE := Lib.hid (show Venn.litV (Venn.valA l ⟨th, a, b, d⟩) m = (Venn.atomTrue ⟨aw, aS, aT, an⟩ ⟨th, a, b, d⟩ == decide (0 < m)) by unfold Venn.litV; rw [hval])
  have HT := Lib.hid (fun W (hW : Below w.heap.size w W) => atom_True aw an sv tv aS aT th a b d W (hs.keep hW) (ht.keep hW) (hk.keep hW) hat1 hw)
  have HFAR := Lib.hid (fun W => cubes_far m W)
  rw [hfar] at HFAR
  generalize Venn.litV (Venn.valA l ⟨th, a, b, d⟩) m = R at HE ⊢
  generalize Venn.atomTrue ⟨aw, aS, aT, an⟩ ⟨th, a, b, d⟩ = B at HE HT
  obtain ⟨S, cS, rfl, _⟩ := hs
  obtain ⟨T, cT, rfl, _⟩ := ht
  have f0 := hF.cell 0
  have q0 := hG.cell 0
  have q1 := hG.cell 1
  have q2 := hG.cell 2
  have q3 := hG.cell 3
  simp at f0 q0 q1 q2 q3 g0 g1 g2 g3
  have e1 : IntKind.i64.wrap (X : Int) = (X : Int) := IntWalk.i64_in _ (by omega)
  have e2 : IntKind.i64.wrap ((X : Int) + 1 - 1) = (X : Int) := by rw [show (X : Int) + 1 - 1 = X by omega]; exact e1
  have e3 : (X : Int) < (l.length : Int) := by omega
  have e4 : (0 : Int) ≤ (X : Int) := by omega
  clear hra hx hat hat1 hval hF hG hk hw hfar hX
  have HE := Lib.hid (show (!R) = (B != decide (0 < m)) by rw [HE.out]; rfl)
  generalize (!R) = R' at HE ⊢
  go_enter Tryz.func75, Tryz.ntmps75
  go_wp2_with fail
  go_region_law (first
    | (go_simp; go_at_call 77; refine (HFAR.out _).mono ?_; rintro e w1 ⟨rfl, rfl⟩)
    | (go_simp; go_at_call 76; refine (HT.out _ (by (repeat' (first | (with_reducible exact Below.refl _ _) | (with_reducible assumption) | (with_reducible refine Below.next ?_ (by with_reducible assumption)) | (with_reducible refine Below.drew ?_) | (with_reducible refine Below.laid ?_ _) | (with_reducible refine Below.setCell ?_ ?_ _) | (with_reducible refine size_of ?_) | (with_reducible refine Nat.le_succ_of_le ?_) | go_size)))).mono ?_; rintro e w1 ⟨rfl, hb1⟩))
  all_goals
    go_wp2
    go_ret
    exact ⟨by rw [HE.out]; rfl, by (repeat' (first | (with_reducible exact Below.refl _ _) | (with_reducible assumption) | (with_reducible refine Below.next ?_ (by with_reducible assumption)) | (with_reducible refine Below.drew ?_) | (with_reducible refine Below.laid ?_ _) | (with_reducible refine Below.setCell ?_ ?_ _) | (with_reducible refine size_of ?_) | (with_reducible refine Nat.le_succ_of_le ?_) | go_size))⟩

theorem anyNot_all (p : Int → Bool) (l : List Int) : (!l.any fun m => !p m) = l.all p := by
  induction l with
  | nil => rfl
  | cons x r ih => simp only [List.any_cons, List.all_cons, Bool.not_or, Bool.not_not, ih]
set_option maxHeartbeats 1000000 in
theorem cubes_holds (sa sc cv : Value) (l : List Venn.Atom) (c : List Int) (th a b d : Int) (w : World) (ha : IsAtoms w sa l) (hcv : IsInts w cv c) (hk : KindsOk w) (hat : ∀ x ∈ l, Venn.atomChk x = 0) (hw : Venn.worldChk ⟨th, a, b, d⟩ = 0) (hl : l.length ≤ 6)
    (hm : ∀ m ∈ c, m ≠ 0 ∧ -(l.length : Int) ≤ m ∧ m ≤ l.length) :
    Calls Tryz.prog 48 #[.agg #[sa, sc], cv, .agg #[.int .i64 th, .int .i64 a, .int .i64 b, .int .i64 d]] w (Keeps (.bool (Venn.cubeV (Venn.valA l ⟨th, a, b, d⟩) c)) w) := by
  obtain ⟨C, cc, rfl, hr, h1, h2⟩ := hcv
  have hb1 : Below w.heap.size w (w.alloc (.cells #[sa, sc] 25)) := by (repeat' (first | (with_reducible exact Below.refl _ _) | (with_reducible assumption) | (with_reducible refine Below.next ?_ (by with_reducible assumption)) | (with_reducible refine Below.drew ?_) | (with_reducible refine Below.laid ?_ _) | (with_reducible refine Below.setCell ?_ ?_ _) | (with_reducible refine size_of ?_) | (with_reducible refine Nat.le_succ_of_le ?_) | go_size))
  have hb2 : Below w.heap.size w ((w.alloc (.cells #[sa, sc] 25)).alloc (.cells #[.int .i64 th, .int .i64 a, .int .i64 b, .int .i64 d] 29)) := by (repeat' (first | (with_reducible exact Below.refl _ _) | (with_reducible assumption) | (with_reducible refine Below.next ?_ (by with_reducible assumption)) | (with_reducible refine Below.drew ?_) | (with_reducible refine Below.laid ?_ _) | (with_reducible refine Below.setCell ?_ ?_ _) | (with_reducible refine size_of ?_) | (with_reducible refine Nat.le_succ_of_le ?_) | go_size))
  have BF := (Blk.new w 25 #[sa, sc]).alloc (.cells #[.int .i64 th, .int .i64 a, .int .i64 b, .int .i64 d] 29)
  have BW := Blk.newAt (w := w.alloc (.cells #[sa, sc] 25)) (g := w.heap.size + 1) (by simp) 29 #[.int .i64 th, .int .i64 a, .int .i64 b, .int .i64 d]
  have HC := Lib.hid (containsFunc_ints 75 #[.pointer (some ⟨w.heap.size, 0, none⟩), .pointer (some ⟨w.heap.size + 1, 0, none⟩)] (enters_of Tryz.func75 (by kernel_rfl) rfl) C cc c (fun m => !Venn.litV (Venn.valA l ⟨th, a, b, d⟩) m) _ (hr.keep hb2)
    (fun m hmem W hW => lit_fn m w.heap.size (w.heap.size + 1) sa sc l th a b d W (BF.keep hW) (BW.keep hW) ((ha.keep hb2).keep hW) ((hk.keep hb2).keep hW) hat hw hl (hm m hmem)) (Nat.le_trans h1 h2))
  have HE := Lib.hid (anyNot_all (Venn.litV (Venn.valA l ⟨th, a, b, d⟩)) c)
  have HV := Lib.hid (show Venn.cubeV (Venn.valA l ⟨th, a, b, d⟩) c = c.all (Venn.litV (Venn.valA l ⟨th, a, b, d⟩)) from rfl)
  generalize Venn.cubeV (Venn.valA l ⟨th, a, b, d⟩) c = R at HV ⊢
  generalize (c.any fun m => !Venn.litV (Venn.valA l ⟨th, a, b, d⟩) m) = B at HC HE
  generalize c.all (Venn.litV (Venn.valA l ⟨th, a, b, d⟩)) = D at HE HV
  obtain ⟨A, cA, rfl, _⟩ := ha
  have HS := Lib.hid (ints_one (w := w) (v := .slice C c.length cc) ⟨C, cc, rfl, hr, h1, h2⟩)
  clear BF BW hr hk hat hm hw
  go_enter Tryz.func48, Tryz.ntmps48
  go_wp2_with fail
  refine (HC.out).mono ?_
  rintro e w1 ⟨rfl, hb3⟩
  go_wp2
  go_ret
  exact ⟨by rw [HV.out, ← HE.out]; rfl, Below.next hb2 hb3⟩

/-- A member that may not be, of n atoms. -/
def badM (n m : Int) : Bool := decide (m = 0) || decide (m < -n) || decide (n < m)
set_option maxHeartbeats 1000000 in
theorem bad_fn (m : Int) (n : Nat) (g : Nat) (T : TypeId) (w : World) (hn : n ≤ 6) (hG : Blk w g T #[.int .i64 n]) : Calls Tryz.prog 44 #[.int .i64 m, .pointer (some ⟨g, 0, none⟩)] w (Keeps (.bool (badM n m)) w) := by
  have g0 := hG.cell 0
  simp at g0
  have hw : wrap64 (-(n : Int)) = -(n : Int) := IntWalk.wrap64_in _ (by omega)
  clear hG
  by_cases h0 : m = 0
  · subst h0
    have HE := Lib.hid (show badM n 0 = true by unfold badM; simp)
    generalize badM n 0 = R at HE ⊢
    go_enter Tryz.func44, Tryz.ntmps44
    go_wp2
    go_ret
    exact ⟨by rw [HE.out]; rfl, by (repeat' (first | (with_reducible exact Below.refl _ _) | (with_reducible assumption) | (with_reducible refine Below.next ?_ (by with_reducible assumption)) | (with_reducible refine Below.drew ?_) | (with_reducible refine Below.laid ?_ _) | (with_reducible refine Below.setCell ?_ ?_ _) | (with_reducible refine size_of ?_) | (with_reducible refine Nat.le_succ_of_le ?_) | go_size))⟩
  · by_cases h1 : m < -(n : Int)
    · have HE := Lib.hid (show badM n m = true by unfold badM; rw [decide_eq_true h1]; simp)
      generalize badM n m = R at HE ⊢
      go_enter Tryz.func44, Tryz.ntmps44
      go_wp2
      go_ret
      exact ⟨by rw [HE.out]; rfl, by (repeat' (first | (with_reducible exact Below.refl _ _) | (with_reducible assumption) | (with_reducible refine Below.next ?_ (by with_reducible assumption)) | (with_reducible refine Below.drew ?_) | (with_reducible refine Below.laid ?_ _) | (with_reducible refine Below.setCell ?_ ?_ _) | (with_reducible refine size_of ?_) | (with_reducible refine Nat.le_succ_of_le ?_) | go_size))⟩
    · have HE := Lib.hid (show badM n m = (m == 0 || decide ((n : Int) < m)) by unfold badM; rw [decide_eq_false h0, decide_eq_false h1, beq_eq_false_iff_ne.2 h0]; rfl)
      generalize badM n m = R at HE ⊢
      go_enter Tryz.func44, Tryz.ntmps44
      go_wp2
      go_ret
      exact ⟨by rw [HE.out]; rfl, by (repeat' (first | (with_reducible exact Below.refl _ _) | (with_reducible assumption) | (with_reducible refine Below.next ?_ (by with_reducible assumption)) | (with_reducible refine Below.drew ?_) | (with_reducible refine Below.laid ?_ _) | (with_reducible refine Below.setCell ?_ ?_ _) | (with_reducible refine size_of ?_) | (with_reducible refine Nat.le_succ_of_le ?_) | go_size))⟩

set_option maxHeartbeats 1000000 in
theorem holds2_fn (f g : Nat) (sa sc xv : Value) (l : List Venn.Atom) (x : List Int) (th a b d : Int) (w : World) (hF : Blk w f 25 #[sa, sc]) (hG : Blk w g 29 #[.int .i64 th, .int .i64 a, .int .i64 b, .int .i64 d])
    (ha : IsAtoms w sa l) (hx : IsInts w xv x) (hk : KindsOk w) (hat : ∀ x ∈ l, Venn.atomChk x = 0) (hw : Venn.worldChk ⟨th, a, b, d⟩ = 0) (hl : l.length ≤ 6) (hm : ∀ m ∈ x, m ≠ 0 ∧ -(l.length : Int) ≤ m ∧ m ≤ l.length) :
    Calls Tryz.prog 47 #[xv, .pointer (some ⟨f, 0, none⟩), .pointer (some ⟨g, 0, none⟩)] w (Keeps (.bool (Venn.cubeV (Venn.valA l ⟨th, a, b, d⟩) x)) w) := by
  have HH := Lib.hid (cubes_holds sa sc xv l x th a b d w ha hx hk hat hw hl hm)
  have f0 := hF.cell 0
  have f1 := hF.cell 1
  have q0 := hG.cell 0
  have q1 := hG.cell 1
  have q2 := hG.cell 2
  have q3 := hG.cell 3
  simp at f0 f1 q0 q1 q2 q3
  obtain ⟨A, cA, rfl, _⟩ := ha
  obtain ⟨X, cX, rfl, _⟩ := hx
  generalize Venn.cubeV (Venn.valA l ⟨th, a, b, d⟩) x = R at HH ⊢
  clear hF hG hk hat hm hw
  go_enter Tryz.func47, Tryz.ntmps47
  go_wp2_with fail
  refine (HH.out).mono ?_
  rintro e w1 ⟨rfl, hb3⟩
  go_wp2
  go_ret
  exact ⟨rfl, hb3⟩
theorem any_lVals (q : List Int → Bool) (p : List LV) : (p.any fun x => q x.1) = (lVals p).any q := by
  unfold lVals
  rw [List.any_map]
  rfl
/-- The fault of lists of cubes, and whether one holds. -/
def cHoldsChk (f : Venn.Form) (L : List (List Int)) (w : Venn.World) : Int :=
  if Venn.formChk f = 0 then (if (L.any fun c => c.any (badM f.atoms.length)) = true then 1 else Venn.worldChk w) else Venn.formChk f
def cHoldsV (f : Venn.Form) (L : List (List Int)) (w : Venn.World) : Bool := if cHoldsChk f L w = 0 then Venn.someV (Venn.valA f.atoms w) L else false
theorem not_bad {n m : Int} (h : badM n m = false) : m ≠ 0 ∧ -n ≤ m ∧ m ≤ n := by
  unfold badM at h
  simp only [Bool.or_eq_false_iff, decide_eq_false_iff_not] at h
  omega
set_option maxHeartbeats 4000000 in
set_option maxRecDepth 100000 in
theorem cubes_Holds (sa sc lv : Value) (l : List Venn.Atom) (c : List Int) (L : List (List Int)) (th a b d : Int) (w : World) (ha : IsAtoms w sa l) (hc : IsInts w sc c) (hlv : IsLists w lv L) (hk : KindsOk w) :
    Calls Tryz.prog 18 #[.agg #[sa, sc], lv, .agg #[.int .i64 th, .int .i64 a, .int .i64 b, .int .i64 d]] w (Keeps (.tuple #[.bool (cHoldsV ⟨l, c⟩ L ⟨th, a, b, d⟩), errV (cHoldsChk ⟨l, c⟩ L ⟨th, a, b, d⟩)]) w) := by
  obtain ⟨LA, lc, p, rfl, rfl, hr, hok, h1, h2⟩ := hlv
  have hn1 : p.length ≤ 9223372036854775807 := by have h3 := h2; unfold maxLen at h3; omega
  have hb1 : Below w.heap.size w (w.alloc (.cells #[sa, sc] 25)) := by (repeat' (first | (with_reducible exact Below.refl _ _) | (with_reducible assumption) | (with_reducible refine Below.next ?_ (by with_reducible assumption)) | (with_reducible refine Below.drew ?_) | (with_reducible refine Below.laid ?_ _) | (with_reducible refine Below.setCell ?_ ?_ _) | (with_reducible refine size_of ?_) | (with_reducible refine Nat.le_succ_of_le ?_) | go_size))
  have hb2 : Below w.heap.size w ((w.alloc (.cells #[sa, sc] 25)).alloc (.cells #[.int .i64 th, .int .i64 a, .int .i64 b, .int .i64 d] 29)) := by (repeat' (first | (with_reducible exact Below.refl _ _) | (with_reducible assumption) | (with_reducible refine Below.next ?_ (by with_reducible assumption)) | (with_reducible refine Below.drew ?_) | (with_reducible refine Below.laid ?_ _) | (with_reducible refine Below.setCell ?_ ?_ _) | (with_reducible refine size_of ?_) | (with_reducible refine Nat.le_succ_of_le ?_) | go_size))
  have BF := Lib.hid ((Blk.new w 25 #[sa, sc]).alloc (.cells #[.int .i64 th, .int .i64 a, .int .i64 b, .int .i64 d] 29))
  have BW := Lib.hid (Blk.newAt (w := w.alloc (.cells #[sa, sc] 25)) (g := w.heap.size + 1) (by simp) 29 #[.int .i64 th, .int .i64 a, .int .i64 b, .int .i64 d])
  have HCH := Lib.hid (form_Check sa sc l c _ (ha.keep hb2) (hc.keep hb2) (hk.keep hb2))
  have b0 := (BF.out).cell 0
  have b1 := (BF.out).cell 1
  simp at b0 b1
  have HA := Lib.hid ha
  have HK := Lib.hid hk
  have HR := Lib.hid hr
  have HOK := Lib.hid hok
  obtain ⟨A, cA, rfl, _⟩ := ha
  obtain ⟨C, cC, rfl, _⟩ := hc
  by_cases hz : Venn.formChk ⟨l, c⟩ = 0
  · obtain ⟨p1, p2, p3, h20, p5, p6, p7⟩ := Venn.formChk_parts hz
    have HAT := Lib.hid (fun x hx => Venn.atomsChk_mem p5 x hx)
    rw [errV_zero hz] at HCH
    have HE := Lib.hid (show cHoldsChk ⟨l, c⟩ (lVals p) ⟨th, a, b, d⟩ = (if ((lVals p).any fun c => c.any (badM l.length)) = true then 1 else Venn.worldChk ⟨th, a, b, d⟩) by unfold cHoldsChk; rw [if_pos hz])
    have HV := Lib.hid (show cHoldsV ⟨l, c⟩ (lVals p) ⟨th, a, b, d⟩ = if cHoldsChk ⟨l, c⟩ (lVals p) ⟨th, a, b, d⟩ = 0 then Venn.someV (Venn.valA l ⟨th, a, b, d⟩) (lVals p) else false from rfl)
    generalize cHoldsV ⟨l, c⟩ (lVals p) ⟨th, a, b, d⟩ = RV at HV ⊢
    generalize cHoldsChk ⟨l, c⟩ (lVals p) ⟨th, a, b, d⟩ = RE at HV HE ⊢
    have hp6 : l.length ≤ 6 := p2
    have hB0 := Lib.hid (show ((lVals p).any fun c => c.any (badM l.length)) = (((lVals p).drop 0).any fun c => c.any (badM l.length)) by rw [List.drop_zero])
    generalize ((lVals p).any fun c => c.any (badM l.length)) = BB at hB0 HE
    clear hz p1 p2 p3 h20 p5 p6 p7 hk hr hok
    go_enter Tryz.func18, Tryz.ntmps18
    go_wp2_with fail
    refine (HCH.out).mono ?_
    rintro e w1 ⟨rfl, hb3⟩
    have hq1 := Below.next hb2 hb3
    clear b0 b1
    have B1 := (BF.out).keep hb3
    have b0 := B1.cell 0
    simp at b0
    have hbA : Below w1.heap.size w1 (w1.alloc (.cells #[.int .i64 l.length] 3)) := by (repeat' (first | (with_reducible exact Below.refl _ _) | (with_reducible assumption) | (with_reducible refine Below.next ?_ (by with_reducible assumption)) | (with_reducible refine Below.drew ?_) | (with_reducible refine Below.laid ?_ _) | (with_reducible refine Below.setCell ?_ ?_ _) | (with_reducible refine size_of ?_) | (with_reducible refine Nat.le_succ_of_le ?_) | go_size))
    have BN := Lib.hid (Blk.new w1 3 #[.int .i64 l.length])
    have hqA := Below.next hq1 hbA
    have BF1 := Lib.hid ((BF.out).keep (Below.next hb3 hbA))
    have BW1 := Lib.hid ((BW.out).keep (Below.next hb3 hbA))
    obtain ⟨N, hN⟩ : ∃ N, N = w1.heap.size := ⟨_, rfl⟩
    go_wp2
    rw [← hN] at BN ⊢
    clear hN b0 B1 hb3 hq1 hbA
    generalize w1.alloc (.cells #[.int .i64 l.length] 3) = wA at *
    go_loopw [23] (fun i wr => ∃ k : Nat, k ≤ p.length ∧ i = .int .i64 k ∧ Below wA.heap.size wA wr ∧ BB = ((lVals p).drop k).any fun c => c.any (badM l.length)) (fun i _ => p.length - (intOf i).toNat)
    case atStart => exact ⟨0, Nat.zero_le _, rfl, Below.refl _ _, hB0.out⟩
    case round =>
      obtain ⟨k, hk, rfl, hbw, hBB⟩ := hrel
      obtain ⟨wo, rfl⟩ : ∃ wo : World, wo = wr := ⟨_, rfl⟩
      have hqo := Below.next hqA hbw
      by_cases hlt : k < p.length
      · obtain ⟨⟨x, xv⟩, hx⟩ : ∃ x, p[k]? = some x := ⟨p[k], List.getElem?_eq_getElem hlt⟩
        obtain ⟨ad, rfl, hc0⟩ := HR.out k xv (by unfold lCells; rw [List.getElem?_map, hx]; rfl)
        have hc := cell_keep hqo hc0
        obtain ⟨X, cX, hxv, hrx, hx1, hx2⟩ := HOK.out _ (List.mem_of_getElem? hx)
        simp only at hxv hrx hx1
        subst hxv
        have hk1 : (k : Int) < (p.length : Int) := by omega
        have hk0 : (0 : Int) ≤ (k : Int) := by omega
        rw [lVals_at hx, List.any_cons] at hBB
        have HC := Lib.hid (containsFunc_ints 44 #[.pointer (some ⟨N, 0, none⟩)] (enters_of Tryz.func44 (by kernel_rfl) rfl) X cX x (badM l.length) wo (hrx.keep hqo)
          (fun m _ W hW => bad_fn m l.length N 3 W hp6 (BN.out.keep (Below.next hbw hW))) (Nat.le_trans hx1 hx2))
        simp only at hBB
        cases hB : x.any (badM l.length) with
        | true =>
          rw [hB] at HC
          have HRE := Lib.hid (show RE = 1 by rw [HE.out, hBB, hB]; rfl)
          have HRV := Lib.hid (show RV = false by rw [HV.out, if_neg (by rw [HRE.out]; decide)])
          clear hB hBB hx hc0 hrx hx1 hx2
          go_wp2_with fail
          refine (HC.out).mono ?_
          rintro e w2 ⟨rfl, hb5⟩
          have hq5 := Below.next hqo hb5
          go_wp2
          go_ret2
          exact ⟨by rw [HRE.out, HRV.out]; rfl, hq5⟩
        | false =>
          rw [hB] at HC
          have HBB := Lib.hid (show BB = ((lVals p).drop (k + 1)).any fun c => c.any (badM l.length) by rw [hBB, hB, Bool.false_or])
          clear hB hBB hx hc0 hrx hx1 hx2
          go_wp2_with fail
          refine (HC.out).mono ?_
          rintro e w2 ⟨rfl, hb5⟩
          have hq5 := Below.next hbw hb5
          clear hb5 hbw hqo hc
          go_wp2
          go_roundw
          case rel => exact ⟨k + 1, by omega, by go_num, hq5, HBB.out⟩
          case measure => simp [intOf]; omega
      · have hk' : k = p.length := by omega
        have hBf : BB = false := by rw [hBB, hk', List.drop_eq_nil_of_le (by rw [lVals_len]; exact Nat.le_refl _)]; rfl
        have HM := Lib.hid (show ∀ x ∈ p, ∀ m ∈ x.1, m ≠ 0 ∧ -(l.length : Int) ≤ m ∧ m ≤ l.length from fun x hx m hm => by
          have h0 := hB0.out
          rw [hBf, List.drop_zero] at h0
          have h1 := List.any_eq_false.1 h0.symm x.1 (lVals_mem hx)
          have h2 := List.any_eq_false.1 (by simpa using h1) m hm
          exact not_bad (by simpa using h2))
        have HE2 := Lib.hid (show RE = Venn.worldChk ⟨th, a, b, d⟩ by rw [HE.out, hBf]; rfl)
        subst hk'
        clear hBB hBf
        have BF2 := Lib.hid (BF1.out.keep hbw)
        have BW2 := Lib.hid (BW1.out.keep hbw)
        have q0 := (BW2.out).cell 0
        have q1 := (BW2.out).cell 1
        have q2 := (BW2.out).cell 2
        have q3 := (BW2.out).cell 3
        simp at q0 q1 q2 q3
        by_cases hw : Venn.worldChk ⟨th, a, b, d⟩ = 0
        · have HRE := Lib.hid (show RE = 0 by rw [HE2.out, hw])
          have HRV := Lib.hid (show RV = Venn.someV (Venn.valA l ⟨th, a, b, d⟩) (lVals p) by rw [HV.out, if_pos HRE.out])
          have HW := Lib.hid hw
          have HWE := Lib.hid (errV_zero hw)
          clear hw
          go_wp2_with fail
          refine (term_World _ _ _ _ _).mono ?_
          rintro e w2 ⟨rfl, hb5⟩
          rw [HWE.out]
          have hq5 := Below.next hqo hb5
          have HC := Lib.hid (containsFunc_lists 47 #[.pointer (some ⟨w.heap.size, 0, none⟩), .pointer (some ⟨w.heap.size + 1, 0, none⟩)] (enters_of Tryz.func47 (by kernel_rfl) rfl) LA lc p (Venn.cubeV (Venn.valA l ⟨th, a, b, d⟩)) w2 (HR.out.keep hq5)
            (fun x hx W hW => holds2_fn w.heap.size (w.heap.size + 1) _ _ x.2 l x.1 th a b d W (BF2.out.keep (Below.next hb5 hW)) (BW2.out.keep (Below.next hb5 hW)) (HA.out.keep (Below.next hq5 hW)) ((HOK.out x hx).keep (Below.next hq5 hW)) (HK.out.keep (Below.next hq5 hW)) HAT.out HW.out hp6 (HM.out x hx)) (Nat.le_trans h1 h2))
          rw [any_lVals] at HC
          have HCV := Lib.hid (show Venn.someV (Venn.valA l ⟨th, a, b, d⟩) (lVals p) = (lVals p).any (Venn.cubeV (Venn.valA l ⟨th, a, b, d⟩)) from rfl)
          generalize Venn.someV (Venn.valA l ⟨th, a, b, d⟩) (lVals p) = SV at HRV HCV
          generalize (lVals p).any (Venn.cubeV (Venn.valA l ⟨th, a, b, d⟩)) = SA at HC HCV
          clear q0 q1 q2 q3 hb5
          go_wp2_with fail
          refine (HC.out).mono ?_
          rintro e w3 ⟨rfl, hb6⟩
          have hq6 := Below.next hq5 hb6
          go_wp2
          go_ret2
          exact ⟨by rw [HRE.out, HRV.out, HCV.out]; rfl, hq6⟩
        · have HRV := Lib.hid (show RV = false by rw [HV.out, if_neg (by rw [HE2.out]; exact hw)])
          have HWE := Lib.hid (errV_ne hw)
          have HWE2 := Lib.hid (show errV RE = errV (Venn.worldChk ⟨th, a, b, d⟩) by rw [HE2.out])
          rw [HWE.out] at HWE2
          clear hw
          go_wp2_with fail
          refine (term_World _ _ _ _ _).mono ?_
          rintro e w2 ⟨rfl, hb5⟩
          rw [HWE.out]
          have hq5 := Below.next hqo hb5
          generalize Venn.worldChk ⟨th, a, b, d⟩ = WC at HWE2 ⊢
          clear q0 q1 q2 q3 hb5
          go_wp2
          go_ret2
          exact ⟨by rw [HWE2.out, HRV.out]; rfl, hq5⟩
  · have HE := Lib.hid (show errV (cHoldsChk ⟨l, c⟩ (lVals p) ⟨th, a, b, d⟩) = errV (Venn.formChk ⟨l, c⟩) ∧ cHoldsV ⟨l, c⟩ (lVals p) ⟨th, a, b, d⟩ = false by
      have h : cHoldsChk ⟨l, c⟩ (lVals p) ⟨th, a, b, d⟩ = Venn.formChk ⟨l, c⟩ := by unfold cHoldsChk; rw [if_neg hz]
      exact ⟨by rw [h], by unfold cHoldsV; rw [h, if_neg hz]⟩)
    rw [errV_ne hz] at HCH HE
    generalize cHoldsV ⟨l, c⟩ (lVals p) ⟨th, a, b, d⟩ = RV at HE ⊢
    generalize errV (cHoldsChk ⟨l, c⟩ (lVals p) ⟨th, a, b, d⟩) = RE at HE ⊢
    generalize Venn.formChk ⟨l, c⟩ = E at HCH HE
    clear hz hk hr hok
    go_enter Tryz.func18, Tryz.ntmps18
    go_wp2_with fail
    refine (HCH.out).mono ?_
    rintro e w1 ⟨rfl, hb3⟩
    have hq1 := Below.next hb2 hb3
    go_wp2
    go_ret2
    exact ⟨by rw [HE.out.1, HE.out.2]; rfl, hq1⟩
end Go.Proofs.YtlpfbdejiifbpaaGreatDoor

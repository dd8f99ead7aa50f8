/-
  THE WALKS of the reference's is and True.
-/
import Derived.Test.YtcecbpbpknphjaaDoorRefHolds
import Derived.Test.YtcecbpbpknphjaaDoorForm
import Derived.Test.YtcecbpbpknphjaaDoorVennIs
namespace Go.Proofs.YtcecbpbpknphjaaDoor
open Go.RowKit

/-- What the reference's 'is' gives: the last formula's answer, and what is ahead of it. -/
def IsPost (W : Venn.World) (l : List Venn.Atom) (x : Bool) (st : List Bool) (t : List Int) (A : Option Addr) (c : Nat) (w : World) (e : Ending) (w' : World) : Prop :=
  ∃ t', e = .returned (.tuple #[.bool x, .slice A t'.length c]) ∧ Below w.heap.size w w' ∧ (∃ r, t = t' ++ r) ∧ t'.length < t.length ∧ Venn.fEvO W l t' [] = some st

theorem boxes_is {w w1 : World} {tA tB : TypeId} {cs ds : Array Value} (hb : Below ((w.alloc (.cells cs tA)).alloc (.cells ds tB)).heap.size ((w.alloc (.cells cs tA)).alloc (.cells ds tB)) w1) :
    Blk w1 w.heap.size tA cs ∧ Blk w1 (w.heap.size + 1) tB ds :=
  ⟨((Blk.new w _ _).alloc _).keep hb, (Blk.newAt (by simp) _ _).keep hb⟩

set_option maxHeartbeats 4000000 in
set_option maxRecDepth 100000 in
theorem ref_is (th a b d : Int) (hw : Venn.worldChk ⟨th, a, b, d⟩ = 0) (l : List Venn.Atom) (hat : ∀ y ∈ l, Venn.atomChk y = 0) (FA FC : Option Addr) (fk fn fc : Nat) :
    ∀ (n : Nat) (t : List Int) (x : Bool) (st : List Bool) (A : Option Addr) (cp : Nat) (w : World), t.length = n → n ≤ 20 → (∀ y ∈ t, Venn.codeOk l.length y = true) →
    IsAtoms w (.slice FA l.length fk) l → IsInts w (.slice A t.length cp) t → Venn.fEvO ⟨th, a, b, d⟩ l t [] = some (x :: st) →
    Calls Tryd.prog 61 #[.agg #[.slice FA l.length fk, .slice FC fn fc], .slice A t.length cp, .agg #[.int .i64 th, .int .i64 a, .int .i64 b, .int .i64 d]] w (IsPost ⟨th, a, b, d⟩ l x st t A cp w) := by
  have HW := Lib.hid hw
  have HAT := Lib.hid hat
  clear hw hat
  intro n
  induction n using Nat.strongRecOn with
  | ind n ih =>
    intro t x st A cp w hn h12 hs hal hint hev
    have IH := Lib.hid ih
    clear ih
    rcases List.eq_nil_or_concat t with rfl | ⟨t', s, rfl⟩
    · simp [Venn.fEvO] at hev
    rw [List.concat_eq_append] at hn hs hint hev ⊢
    have hs' := hs s (by simp)
    have HS := Lib.hid (show ∀ y ∈ t', Venn.codeOk l.length y = true from fun y hy => hs y (by simp [hy]))
    have HF := Lib.hid hint.front
    have HAL := Lib.hid hal
    have hlen : (t' ++ [s]).length = t'.length + 1 := by simp
    have hnm : n = t'.length + 1 := by omega
    have hcell : ∃ ad, A = some ad ∧ w.cell? (ad.add t'.length) = some (.int .i64 s) := by
      obtain ⟨A', c', e, hr, _, _⟩ := hint
      simp only [Value.slice.injEq] at e
      obtain ⟨rfl, _, rfl⟩ := e
      obtain ⟨ad, h1, h2⟩ := hr.int (k := t'.length) (by rw [hlen]; omega)
      refine ⟨ad, h1, ?_⟩
      rw [h2]
      simp
    have hcap : t'.length + 1 ≤ cp ∧ cp ≤ maxLen := by
      obtain ⟨A', c', e, _, h1, h2⟩ := hint
      simp only [Value.slice.injEq] at e
      obtain ⟨_, _, rfl⟩ := e
      rw [hlen] at h1
      exact ⟨by omega, h2⟩
    obtain ⟨ad, rfl, hcell⟩ := hcell
    unfold maxLen at hcap
    have HEV := Lib.hid (Venn.fEvO_last hs' hev)
    have hw1 : IntKind.i64.wrap (((t'.length : Int) + 1) - 1) = (t'.length : Int) := by rw [show ((t'.length : Int) + 1) - 1 = (t'.length : Int) by omega]; exact IntWalk.i64_in _ (by omega)
    have HREC : ∀ (y : Bool) (st' : List Bool) (W : World), Below w.heap.size w W → Venn.fEvO ⟨th, a, b, d⟩ l t' [] = some (y :: st') → Calls Tryd.prog 61 #[.agg #[.slice FA l.length fk, .slice FC fn fc], .slice (some ad) t'.length cp, .agg #[.int .i64 th, .int .i64 a, .int .i64 b, .int .i64 d]] W (IsPost ⟨th, a, b, d⟩ l y st' t' (some ad) cp W) := fun y st' W hbW hy =>
      IH.out t'.length (by omega) t' y st' (some ad) cp W rfl (by omega) HS.out (HAL.out.keep hbW) (HF.out.keep hbW) hy
    have HREC2 : ∀ (t'' : List Int) (y : Bool) (st' : List Bool) (W : World), (∃ r, t' = t'' ++ r) → t''.length < t'.length → Below w.heap.size w W → Venn.fEvO ⟨th, a, b, d⟩ l t'' [] = some (y :: st') → Calls Tryd.prog 61 #[.agg #[.slice FA l.length fk, .slice FC fn fc], .slice (some ad) t''.length cp, .agg #[.int .i64 th, .int .i64 a, .int .i64 b, .int .i64 d]] W (IsPost ⟨th, a, b, d⟩ l y st' t'' (some ad) cp W) := by
      rintro t'' y st' W ⟨r, hr⟩ hlt hbW hy
      have h1 : IsInts w (.slice (some ad) t''.length cp) t'' := by
        have := HF.out
        rw [hr] at this
        exact this.front
      exact IH.out t''.length (by omega) t'' y st' (some ad) cp W rfl (by omega) (fun y hy => HS.out y (by rw [hr]; simp [hy])) (HAL.out.keep hbW) (h1.keep hbW) hy
    have HR := Lib.hid HREC
    have HR2 := Lib.hid HREC2
    have HPRE : ∀ (t'' : List Int), (∃ r, t' = t'' ++ r) → (∃ r, t' ++ [s] = t'' ++ r) := fun _ ⟨r, hr⟩ => ⟨r ++ [s], by rw [hr]; simp⟩
    have HPR := Lib.hid HPRE
    rw [hlen]
    clear hs hint hal hev HREC HREC2 HPRE
    have hm0 : (0 : Int) ≤ (t'.length : Int) := by omega
    have hm1 : (t'.length : Int) < (t'.length : Int) + 1 := by omega
    have hm2 : (t'.length : Int) ≤ (cp : Int) := by omega
    have hcell2 := cell_keep (w' := (w.alloc (.cells #[.slice FA l.length fk, .slice FC fn fc] 25)).alloc (.cells #[.int .i64 th, .int .i64 a, .int .i64 b, .int .i64 d] 28)) (by (repeat' (first | (with_reducible exact Below.refl _ _) | (with_reducible assumption) | (with_reducible refine Below.next ?_ (by with_reducible assumption)) | (with_reducible refine Below.drew ?_) | (with_reducible refine Below.laid ?_ _) | (with_reducible refine Below.setCell ?_ ?_ _) | (with_reducible refine size_of ?_) | (with_reducible refine Nat.le_succ_of_le ?_) | go_size))) hcell
    clear hcell
    rcases HEV.out with ⟨⟨aw, aS, aT, an⟩, h0, h6, hla, hx, hst⟩ | ⟨y, h8, hx, hst⟩ | ⟨y, z, h5, hx, hst⟩
    · have HST := Lib.hid hst
      have HX := Lib.hid hx
      have HC := Lib.hid (HAT.out _ (List.mem_of_getElem? hla))
      have hsn : s.toNat < l.length := (List.getElem?_eq_some_iff.1 hla).1
      obtain ⟨N, rfl⟩ := Int.eq_ofNat_of_zero_le h0
      rw [Int.toNat_natCast] at hla hsn
      have hal := HAL.out
      obtain ⟨A', c', e, hrA, hlA, hcA⟩ := hal
      simp only [Value.slice.injEq] at e
      obtain ⟨rfl, _, rfl⟩ := e
      obtain ⟨fa, sv, tv, rfl, g0, g1, g2, g3, hs, ht⟩ := hrA N _ hla
      simp only at g0 g1 g2 g3 hs ht
      have HB0 := Lib.hid (show Below w.heap.size w ((w.alloc (.cells #[.slice (some fa) l.length fk, .slice FC fn fc] 25)).alloc (.cells #[.int .i64 th, .int .i64 a, .int .i64 b, .int .i64 d] 28)) by (repeat' (first | (with_reducible exact Below.refl _ _) | (with_reducible assumption) | (with_reducible refine Below.next ?_ (by with_reducible assumption)) | (with_reducible refine Below.drew ?_) | (with_reducible refine Below.laid ?_ _) | (with_reducible refine Below.setCell ?_ ?_ _) | (with_reducible refine size_of ?_) | (with_reducible refine Nat.le_succ_of_le ?_) | go_size)))
      have d0 := cell_keep HB0.out g0
      have d1 := cell_keep HB0.out g1
      have d2 := cell_keep HB0.out g2
      have d3 := cell_keep HB0.out g3
      obtain ⟨sA, sN, rfl, hs⟩ := hs
      obtain ⟨tA, tN, rfl, ht⟩ := ht
      have HSS := Lib.hid (show IsInts w (.slice sA aS.length sN) aS from ⟨sA, sN, rfl, hs⟩)
      have HTT := Lib.hid (show IsInts w (.slice tA aT.length tN) aT from ⟨tA, tN, rfl, ht⟩)
      have hN1 : (N : Int) < (l.length : Int) := by omega
      have h10 : (N : Int) < 10 := by omega
      clear hx hst hlen hla g0 g1 g2 g3 hs ht hs' hrA hlA hcA HB0
      go_enter Tryd.func61, Tryd.ntmps61
      go_wp2_with fail
      go_region_law (go_simp; go_at_call 96; refine (ref_Holds _ _ _ _ aS aT _ _ _ _ _ (HSS.out.keep (by (repeat' (first | (with_reducible exact Below.refl _ _) | (with_reducible assumption) | (with_reducible refine Below.next ?_ (by with_reducible assumption)) | (with_reducible refine Below.drew ?_) | (with_reducible refine Below.laid ?_ _) | (with_reducible refine Below.setCell ?_ ?_ _) | (with_reducible refine size_of ?_) | (with_reducible refine Nat.le_succ_of_le ?_) | go_size)))) (HTT.out.keep (by (repeat' (first | (with_reducible exact Below.refl _ _) | (with_reducible assumption) | (with_reducible refine Below.next ?_ (by with_reducible assumption)) | (with_reducible refine Below.drew ?_) | (with_reducible refine Below.laid ?_ _) | (with_reducible refine Below.setCell ?_ ?_ _) | (with_reducible refine size_of ?_) | (with_reducible refine Nat.le_succ_of_le ?_) | go_size)))) HC.out HW.out).mono ?_; rintro e w1 ⟨rfl, hb1⟩)
      all_goals
        go_wp2
        go_ret2
        exact ⟨t', by rw [HX.out]; rfl, by (repeat' (first | (with_reducible exact Below.refl _ _) | (with_reducible assumption) | (with_reducible refine Below.next ?_ (by with_reducible assumption)) | (with_reducible refine Below.drew ?_) | (with_reducible refine Below.laid ?_ _) | (with_reducible refine Below.setCell ?_ ?_ _) | (with_reducible refine size_of ?_) | (with_reducible refine Nat.le_succ_of_le ?_) | go_size)), ⟨_, rfl⟩, by simp, HST.out⟩
    · subst h8
      have HST := Lib.hid hst
      have HX := Lib.hid hx
      clear hx hst hlen hs'
      go_enter Tryd.func61, Tryd.ntmps61
      go_wp2_with (go_at_call 61; refine (HR.out y st _ (by (repeat' (first | (with_reducible exact Below.refl _ _) | (with_reducible assumption) | (with_reducible refine Below.next ?_ (by with_reducible assumption)) | (with_reducible refine Below.drew ?_) | (with_reducible refine Below.laid ?_ _) | (with_reducible refine Below.setCell ?_ ?_ _) | (with_reducible refine size_of ?_) | (with_reducible refine Nat.le_succ_of_le ?_) | go_size))) HST.out).mono ?_; rintro e w1 ⟨t1, rfl, hb1, hr1, hl1, he1⟩)
      go_ret2
      exact ⟨t1, by rw [HX.out]; rfl, by (repeat' (first | (with_reducible exact Below.refl _ _) | (with_reducible assumption) | (with_reducible refine Below.next ?_ (by with_reducible assumption)) | (with_reducible refine Below.drew ?_) | (with_reducible refine Below.laid ?_ _) | (with_reducible refine Below.setCell ?_ ?_ _) | (with_reducible refine size_of ?_) | (with_reducible refine Nat.le_succ_of_le ?_) | go_size)), HPR.out _ hr1, by simp; omega, he1⟩
    · have HST := Lib.hid hst
      have HX := Lib.hid hx
      clear hx hst hlen hs'
      rcases h5 with rfl | rfl | rfl
      all_goals
        go_enter Tryd.func61, Tryd.ntmps61
        go_wp2_with fail
        refine (HR.out z (y :: st) _ (by (repeat' (first | (with_reducible exact Below.refl _ _) | (with_reducible assumption) | (with_reducible refine Below.next ?_ (by with_reducible assumption)) | (with_reducible refine Below.drew ?_) | (with_reducible refine Below.laid ?_ _) | (with_reducible refine Below.setCell ?_ ?_ _) | (with_reducible refine size_of ?_) | (with_reducible refine Nat.le_succ_of_le ?_) | go_size))) HST.out).mono ?_
        rintro e w1 ⟨t1, rfl, hb1, hr1, hl1, he1⟩
        obtain ⟨BF, BW⟩ := boxes_is hb1
        obtain ⟨e0, e1, e2, e3⟩ := BW.cells4
        have f0 := BF.cell 0
        have f1 := BF.cell 1
        simp at f0 f1
        clear BF BW
        go_wp2_with fail
        refine (HR2.out t1 y st _ hr1 hl1 (by (repeat' (first | (with_reducible exact Below.refl _ _) | (with_reducible assumption) | (with_reducible refine Below.next ?_ (by with_reducible assumption)) | (with_reducible refine Below.drew ?_) | (with_reducible refine Below.laid ?_ _) | (with_reducible refine Below.setCell ?_ ?_ _) | (with_reducible refine size_of ?_) | (with_reducible refine Nat.le_succ_of_le ?_) | go_size))) he1).mono ?_
        rintro e w2 ⟨t2, rfl, hb2, hr2, hl2, he2⟩
        have HRR := Lib.hid (show ∃ r, t' = t2 ++ r by
          obtain ⟨r, hr⟩ := hr1
          obtain ⟨r', hr'⟩ := hr2
          exact ⟨r' ++ r, by rw [hr, hr', List.append_assoc]⟩)
        cases y <;> cases z
        all_goals
          go_wp2
          go_ret2
          exact ⟨t2, by rw [HX.out]; rfl, by (repeat' (first | (with_reducible exact Below.refl _ _) | (with_reducible assumption) | (with_reducible refine Below.next ?_ (by with_reducible assumption)) | (with_reducible refine Below.drew ?_) | (with_reducible refine Below.laid ?_ _) | (with_reducible refine Below.setCell ?_ ?_ _) | (with_reducible refine size_of ?_) | (with_reducible refine Nat.le_succ_of_le ?_) | go_size)), HPR.out _ HRR.out, by simp; omega, he2⟩

set_option maxHeartbeats 1000000 in
theorem ref_True (sa sc : Value) (l : List Venn.Atom) (c : List Int) (th a b d : Int) (w : World) (ha : IsAtoms w sa l) (hc : IsInts w sc c) (hf : Venn.formChk ⟨l, c⟩ = 0) (hw : Venn.worldChk ⟨th, a, b, d⟩ = 0) :
    Calls Tryd.prog 20 #[.agg #[sa, sc], .agg #[.int .i64 th, .int .i64 a, .int .i64 b, .int .i64 d]] w (Keeps (.bool (Venn.formTrue ⟨l, c⟩ ⟨th, a, b, d⟩)) w) := by
  obtain ⟨A, cA, rfl, ha'⟩ := ha
  obtain ⟨C, cC, rfl, hc'⟩ := hc
  have HA := Lib.hid (show IsAtoms w (.slice A l.length cA) l from ⟨A, cA, rfl, ha'⟩)
  have HC := Lib.hid (show IsInts w (.slice C c.length cC) c from ⟨C, cC, rfl, hc'⟩)
  clear ha' hc'
  obtain ⟨_, _, _, h20, hat, hok, _⟩ := Venn.formChk_parts hf
  have HI := Lib.hid (fun W h1 h2 => ref_is th a b d hw l (Venn.atomsChk_mem hat) A C cA c.length cC c.length c _ _ C cC W rfl h20 (fun y hy => List.all_eq_true.1 hok y hy) h1 h2 (Venn.fEvO_form hf ⟨th, a, b, d⟩))
  generalize Venn.formTrue ⟨l, c⟩ ⟨th, a, b, d⟩ = X at HI ⊢
  clear hf hw h20 hat hok
  go_enter Tryd.func20, Tryd.ntmps20
  go_wp2_with (go_at_call 61; refine (HI.out _ (HA.out.keep (by (repeat' (first | (with_reducible exact Below.refl _ _) | (with_reducible assumption) | (with_reducible refine Below.next ?_ (by with_reducible assumption)) | (with_reducible refine Below.drew ?_) | (with_reducible refine Below.laid ?_ _) | (with_reducible refine Below.setCell ?_ ?_ _) | (with_reducible refine size_of ?_) | (with_reducible refine Nat.le_succ_of_le ?_) | go_size)))) (HC.out.keep (by (repeat' (first | (with_reducible exact Below.refl _ _) | (with_reducible assumption) | (with_reducible refine Below.next ?_ (by with_reducible assumption)) | (with_reducible refine Below.drew ?_) | (with_reducible refine Below.laid ?_ _) | (with_reducible refine Below.setCell ?_ ?_ _) | (with_reducible refine size_of ?_) | (with_reducible refine Nat.le_succ_of_le ?_) | go_size))))).mono ?_; rintro e w1 ⟨t1, rfl, hb1, hr1, hl1, he1⟩)
  go_ret
  exact ⟨rfl, by (repeat' (first | (with_reducible exact Below.refl _ _) | (with_reducible assumption) | (with_reducible refine Below.next ?_ (by with_reducible assumption)) | (with_reducible refine Below.drew ?_) | (with_reducible refine Below.laid ?_ _) | (with_reducible refine Below.setCell ?_ ?_ _) | (with_reducible refine size_of ?_) | (with_reducible refine Nat.le_succ_of_le ?_) | go_size))⟩
end Go.Proofs.YtcecbpbpknphjaaDoor

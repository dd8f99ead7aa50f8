/-
  THE WALKS of span.Of and span.Exact.
  WORDS FOR LISTS OF FORMULAS IN MEMORY, and the walks of core.Check, core.So.
  THE WALK of form.Own: a copy of a formula, the call's own.
  LISTS OF LISTS of integers in memory: a slice that reads as one; a row of the call's own whose cells are slices.
  THE WALKS of slices.IndexFunc, slices.ContainsFunc (at integers, and at lists of these; the predicate may lay blocks of its own), slices.Equal, slices.Grow of nil, slices.Concat of two.
-/
import Derived.Test.YtjnjgcibhjdmdaaGreatDoorFitG
import Derived.Test.YtjnjgcibhjdmdaaGreatDoorFormG
import Derived.Test.YtjnjgcibhjdmdaaGreatDoorSetsT
import Derived.Test.YtjnjgcibhjdmdaaGreatDoorVennP2
import Derived.Test.YtjnjgcibhjdmdaaGreatDoorOwnG
import Derived.Deep.RegionLaw
import Derived.Deep.RegionHeld3
import Derived.Test.YtjnjgcibhjdmdaaGreatDoorRowG
import Derived.Lib.AppendZeros
import Derived.Lib.Walk
namespace Go.Proofs.YtjnjgcibhjdmdaaGreatDoor
open Go.RowKit Go.Shelf
attribute [local go_sem] Oper.semAt_some

theorem Blk.cells2 {w : World} {g : Nat} {t : TypeId} {x0 x1 : Value} (h : Blk w g t #[x0, x1]) :
    (w.cell? ⟨g, 0, none⟩ = some x0 ∧ w.cell? ⟨g, 1, none⟩ = some x1) ∧ (w.frozen? ⟨g, 0, none⟩ = false ∧ w.frozen? ⟨g, 1, none⟩ = false) :=
  ⟨⟨h.cell 0, h.cell 1⟩, h.frozen 0, h.frozen 1⟩
theorem Blk.set2 {w : World} {g : Nat} {t : TypeId} {y0 y1 : Value} (h : Blk w g t #[y0, y1]) (x0 x1 : Value) : Blk ((w.setCell ⟨g, 0, none⟩ x0).setCell ⟨g, 1, none⟩ x1) g t #[x0, x1] := by
  have := (h.set_ 0 x0).set_ 1 x1
  have e : ((#[y0, y1].setIfInBounds 0 x0).setIfInBounds 1 x1) = #[x0, x1] := by simp
  rw [e] at this
  exact this
theorem below_set2 {B : Nat} {a w : World} (h : Below B a w) {g : Nat} (hg : B ≤ g) (x0 x1 : Value) : Below B a ((w.setCell ⟨g, 0, none⟩ x0).setCell ⟨g, 1, none⟩ x1) :=
  (h.setCell (p := ⟨g, 0, none⟩) hg _).setCell (p := ⟨g, 1, none⟩) hg _
theorem blk_eq2 {w : World} {g : Nat} {t : TypeId} {a b a' b' : Int} (h : Blk w g t #[.int .i64 a, .int .i64 b]) (h1 : a = a') (h2 : b = b') : Blk w g t #[.int .i64 a', .int .i64 b'] := by rw [← h1, ← h2]; exact h
theorem below_put {B : Nat} {a W : World} (h : Below B a W) {D : Nat} (hD : B ≤ D) (o : Obj) : Below B a (W.putObj D o) :=
  ⟨h.os, h.tape, h.output, by rw [size_putObj]; exact h.size, fun k hk => (World.putObj_heap_other (by omega)).trans (h.block k hk)⟩
theorem spanChk_parts {f : Venn.Form} {t : List Int} {u : Int} (h1 : Venn.formChk f = 0) (h2 : Venn.termChk t = 0) (h3 : Venn.things u = true) :
    Venn.spanChk f t u = if (Venn.spanGo f t u (Venn.allC u)).2 < 0 then 5 else 0 := by
  rw [Venn.spanChk, if_pos h1, if_pos h2, if_pos h3]
def spanVv (f : Venn.Form) (t : List Int) (u : Int) : Value := .tuple #[.agg #[.int .i64 (Venn.spanV f t u).1, .int .i64 (Venn.spanV f t u).2], errV (Venn.spanChk f t u)]
theorem spanVv_bad {f : Venn.Form} {t : List Int} {u e : Int} (h : Venn.spanChk f t u = e) (he : e ≠ 0) : spanVv f t u = .tuple #[.agg #[.int .i64 0, .int .i64 0], .iface 59 (.int .i64 e)] := by
  rw [spanVv, Venn.spanV, if_neg (by rw [h]; exact he), h, errV_ne he]
theorem wrap1 {u : Int} (hu : Venn.things u = true) : IntKind.i64.wrap (u + 1) = u + 1 := by
  simp only [Venn.things, Bool.and_eq_true, decide_eq_true_eq] at hu
  exact IntWalk.i64_in _ (by omega)

def exactVv (f : Venn.Form) (t : List Int) (u : Int) : Value := .tuple #[.int .i64 (Venn.exactV f t u), errV (Venn.exactChk f t u)]
end Go.Proofs.YtjnjgcibhjdmdaaGreatDoor

namespace Go.Proofs.YtjnjgcibhjdmdaaGreatDoor
open Go.RowKit Go.Shelf

/-- A slice of formulas reads as l. -/
def IsForms (w : World) (v : Value) (l : List Venn.Form) : Prop :=
  ∃ A c, v = .slice A l.length c ∧ (∀ (k : Nat) (f : Venn.Form), l[k]? = some f → ∃ ad sa sc, A = some ad ∧ w.cell? (ad.add (k * 2)) = some sa ∧ w.cell? ⟨(ad.add (k * 2)).block, (ad.add (k * 2)).off + 1, none⟩ = some sc ∧
    IsAtoms w sa f.atoms ∧ IsInts w sc f.code) ∧ l.length ≤ c ∧ c ≤ maxLen
theorem IsForms.keep {w w' : World} {v : Value} {l : List Venn.Form} (h : IsForms w v l) (hb : Below w.heap.size w w') : IsForms w' v l := by
  obtain ⟨A, c, hv, hr, hc⟩ := h
  refine ⟨A, c, hv, fun k a ha => ?_, hc⟩
  obtain ⟨ad, sa, sc, e, h0, h1, hs, ht⟩ := hr k a ha
  exact ⟨ad, sa, sc, e, cell_keep hb h0, cell_keep hb h1, hs.keep hb, ht.keep hb⟩
theorem IsForms.nil (w : World) : IsForms w (.slice none 0 0) [] := ⟨none, 0, rfl, fun k a h => by simp at h, Nat.le_refl _, by simp⟩
theorem IsForms.one {w : World} {g : Nat} {t : TypeId} {f : Venn.Form} {sa sc : Value} (h : Blk w g t #[sa, sc]) (ha : IsAtoms w sa f.atoms) (hc : IsInts w sc f.code) : IsForms w (.slice (some ⟨g, 0, none⟩) 1 1) [f] := by
  refine ⟨_, _, rfl, fun k x hx => ?_, Nat.le_refl _, by simp [maxLen]⟩
  match k, hx with
  | 0, hx =>
    simp at hx
    subst hx
    exact ⟨_, sa, sc, rfl, h.cell 0, h.cell 1, ha, hc⟩
theorem IsAtoms.slice {w : World} {v : Value} {l : List Venn.Atom} (h : IsAtoms w v l) : ∃ A c, v = .slice A l.length c := let ⟨A, c, e, _⟩ := h; ⟨A, c, e⟩
theorem IsInts.slice {w : World} {v : Value} {l : List Int} (h : IsInts w v l) : ∃ A c, v = .slice A l.length c := let ⟨A, c, e, _⟩ := h; ⟨A, c, e⟩

set_option maxHeartbeats 2000000 in
set_option maxRecDepth 100000 in
theorem core_Check (v : Value) (l : List Venn.Form) (u : Int) (w : World) (hl : IsForms w v l) (hk : KindsOk w) : Calls Tryz.prog 62 #[v, .int .i64 u] w (Keeps (errV (Venn.coreChk l u)) w) := by
  obtain ⟨A, cA, rfl, hra, hla, hlb⟩ := hl
  have hlb' := hlb
  unfold maxLen at hlb'
  obtain ⟨E, hE⟩ : ∃ E, E = errV (Venn.coreChk l u) := ⟨_, rfl⟩
  rw [← hE]
  have HE := Lib.hid hE
  have HK := Lib.hid hk
  have HRA := Lib.hid hra
  clear hE hk hra
  by_cases h1 : l.length = 0
  · have HV := Lib.hid (show E = .iface 59 (.int .i64 5) by rw [HE.out, Venn.coreChk, if_pos h1]; rfl)
    have e1 : ((l.length : Int) == 0) = true := beq_iff_eq.2 (by omega)
    clear h1
    go_enter Tryz.func62, Tryz.ntmps62
    go_wp2
    go_ret
    exact ⟨congrArg Ending.returned HV.out.symm, by (repeat' (first | (with_reducible exact Below.refl _ _) | (with_reducible assumption) | (with_reducible refine Below.next ?_ (by with_reducible assumption)) | (with_reducible refine Below.drew ?_) | (with_reducible refine Below.laid ?_ _) | (with_reducible refine Below.setCell ?_ ?_ _) | (with_reducible refine size_of ?_) | (with_reducible refine Nat.le_succ_of_le ?_) | go_size))⟩
  have e1 : ((l.length : Int) == 0) = false := beq_eq_false_iff_ne.2 (by omega)
  by_cases h2 : 6 < l.length
  · have HV := Lib.hid (show E = .iface 59 (.int .i64 4) by rw [HE.out, Venn.coreChk, if_neg h1, if_pos h2]; rfl)
    have h2' : (6 : Int) < (l.length : Int) := by omega
    clear h1 h2
    go_enter Tryz.func62, Tryz.ntmps62
    go_wp2
    go_ret
    exact ⟨congrArg Ending.returned HV.out.symm, by (repeat' (first | (with_reducible exact Below.refl _ _) | (with_reducible assumption) | (with_reducible refine Below.next ?_ (by with_reducible assumption)) | (with_reducible refine Below.drew ?_) | (with_reducible refine Below.laid ?_ _) | (with_reducible refine Below.setCell ?_ ?_ _) | (with_reducible refine size_of ?_) | (with_reducible refine Nat.le_succ_of_le ?_) | go_size))⟩
  have h2' : ¬ (6 : Int) < (l.length : Int) := by omega
  have HG := Lib.hid (show E = errV (if Venn.formsChk l = 0 then (if Venn.things u = true then 0 else 1) else Venn.formsChk l) by rw [HE.out, Venn.coreChk, if_neg h1, if_neg h2])
  clear h1 h2
  go_enter Tryz.func62, Tryz.ntmps62
  go_wp2
  go_loopw [20] (fun i wr => ∃ k : Nat, k ≤ l.length ∧ i = .int .i64 k ∧ Below w.heap.size w wr ∧ E = errV (if Venn.formsChk (l.drop k) = 0 then (if Venn.things u = true then 0 else 1) else Venn.formsChk (l.drop k)))
    (fun i _ => l.length - (intOf i).toNat)
  case atStart => exact ⟨0, Nat.zero_le _, rfl, by (repeat' (first | (with_reducible exact Below.refl _ _) | (with_reducible assumption) | (with_reducible refine Below.next ?_ (by with_reducible assumption)) | (with_reducible refine Below.drew ?_) | (with_reducible refine Below.laid ?_ _) | (with_reducible refine Below.setCell ?_ ?_ _) | (with_reducible refine size_of ?_) | (with_reducible refine Nat.le_succ_of_le ?_) | go_size)), by rw [List.drop_zero]; exact HG.out⟩
  case round =>
    obtain ⟨k, hk, rfl, hb, hrest⟩ := hrel
    obtain ⟨wo, rfl⟩ : ∃ wo : World, wo = wr := ⟨_, rfl⟩
    have HR := Lib.hid hrest
    clear hrest
    by_cases hlt : k < l.length
    · obtain ⟨ad, sa, sc, rfl, g0, g1, hs, ht⟩ := HRA.out k _ (List.getElem?_eq_getElem hlt)
      have HD := Lib.hid (List.drop_eq_getElem_cons hlt)
      generalize l[k] = at_ at g0 g1 hs ht HD
      obtain ⟨fl, fc⟩ := at_
      simp only at g0 g1 hs ht
      have d0 := cell_keep hb g0
      have d1 := cell_keep hb g1
      obtain ⟨sA, sN, rfl⟩ := hs.slice
      obtain ⟨tA, tN, rfl⟩ := ht.slice
      have HSS := Lib.hid hs
      have HTT := Lib.hid ht
      clear g0 g1 hs ht
      have hk1 : (k : Int) < (l.length : Int) := by omega
      have hk0 : (0 : Int) ≤ (k : Int) := by omega
      by_cases hz : Venn.formChk ⟨fl, fc⟩ = 0
      · have HZ := Lib.hid (errV_zero hz)
        have HV := Lib.hid (show E = errV (if Venn.formsChk (l.drop (k + 1)) = 0 then (if Venn.things u = true then 0 else 1) else Venn.formsChk (l.drop (k + 1))) by rw [HR.out, HD.out, Venn.formsChk, if_pos hz])
        clear hz
        go_wp2_with (go_at_call 37; refine (form_Check _ _ fl fc _ (HSS.out.keep (by (repeat' (first | (with_reducible exact Below.refl _ _) | (with_reducible assumption) | (with_reducible refine Below.next ?_ (by with_reducible assumption)) | (with_reducible refine Below.drew ?_) | (with_reducible refine Below.laid ?_ _) | (with_reducible refine Below.setCell ?_ ?_ _) | (with_reducible refine size_of ?_) | (with_reducible refine Nat.le_succ_of_le ?_) | go_size)))) (HTT.out.keep (by (repeat' (first | (with_reducible exact Below.refl _ _) | (with_reducible assumption) | (with_reducible refine Below.next ?_ (by with_reducible assumption)) | (with_reducible refine Below.drew ?_) | (with_reducible refine Below.laid ?_ _) | (with_reducible refine Below.setCell ?_ ?_ _) | (with_reducible refine size_of ?_) | (with_reducible refine Nat.le_succ_of_le ?_) | go_size)))) (HK.out.keep (by (repeat' (first | (with_reducible exact Below.refl _ _) | (with_reducible assumption) | (with_reducible refine Below.next ?_ (by with_reducible assumption)) | (with_reducible refine Below.drew ?_) | (with_reducible refine Below.laid ?_ _) | (with_reducible refine Below.setCell ?_ ?_ _) | (with_reducible refine size_of ?_) | (with_reducible refine Nat.le_succ_of_le ?_) | go_size))))).mono ?_; rintro e w1 ⟨rfl, hb1⟩; rw [HZ.out])
        go_roundw
        case rel => exact ⟨k + 1, by omega, by go_num, by (repeat' (first | (with_reducible exact Below.refl _ _) | (with_reducible assumption) | (with_reducible refine Below.next ?_ (by with_reducible assumption)) | (with_reducible refine Below.drew ?_) | (with_reducible refine Below.laid ?_ _) | (with_reducible refine Below.setCell ?_ ?_ _) | (with_reducible refine size_of ?_) | (with_reducible refine Nat.le_succ_of_le ?_) | go_size)), HV.out⟩
        case measure => simp [intOf]; omega
      · have HZ := Lib.hid (errV_ne hz)
        have HV := Lib.hid (show E = .iface 59 (.int .i64 (Venn.formChk ⟨fl, fc⟩)) by rw [HR.out, HD.out, Venn.formsChk, if_neg hz, if_neg hz, errV_ne hz])
        clear hz
        go_wp2_with (go_at_call 37; refine (form_Check _ _ fl fc _ (HSS.out.keep (by (repeat' (first | (with_reducible exact Below.refl _ _) | (with_reducible assumption) | (with_reducible refine Below.next ?_ (by with_reducible assumption)) | (with_reducible refine Below.drew ?_) | (with_reducible refine Below.laid ?_ _) | (with_reducible refine Below.setCell ?_ ?_ _) | (with_reducible refine size_of ?_) | (with_reducible refine Nat.le_succ_of_le ?_) | go_size)))) (HTT.out.keep (by (repeat' (first | (with_reducible exact Below.refl _ _) | (with_reducible assumption) | (with_reducible refine Below.next ?_ (by with_reducible assumption)) | (with_reducible refine Below.drew ?_) | (with_reducible refine Below.laid ?_ _) | (with_reducible refine Below.setCell ?_ ?_ _) | (with_reducible refine size_of ?_) | (with_reducible refine Nat.le_succ_of_le ?_) | go_size)))) (HK.out.keep (by (repeat' (first | (with_reducible exact Below.refl _ _) | (with_reducible assumption) | (with_reducible refine Below.next ?_ (by with_reducible assumption)) | (with_reducible refine Below.drew ?_) | (with_reducible refine Below.laid ?_ _) | (with_reducible refine Below.setCell ?_ ?_ _) | (with_reducible refine size_of ?_) | (with_reducible refine Nat.le_succ_of_le ?_) | go_size))))).mono ?_; rintro e w1 ⟨rfl, hb1⟩; rw [HZ.out])
        go_ret
        exact ⟨congrArg Ending.returned HV.out.symm, by (repeat' (first | (with_reducible exact Below.refl _ _) | (with_reducible assumption) | (with_reducible refine Below.next ?_ (by with_reducible assumption)) | (with_reducible refine Below.drew ?_) | (with_reducible refine Below.laid ?_ _) | (with_reducible refine Below.setCell ?_ ?_ _) | (with_reducible refine size_of ?_) | (with_reducible refine Nat.le_succ_of_le ?_) | go_size))⟩
    · have hd : l.drop k = [] := List.drop_eq_nil_of_le (by omega)
      cases hu : Venn.things u
      · have HV := Lib.hid (show E = .iface 59 (.int .i64 1) by rw [HR.out, hd, hu]; rfl)
        have HU := Lib.hid hu
        clear hd hu
        go_wp2_with (go_at_call 24; refine (sets_Things _ _).mono ?_; rintro e w' ⟨rfl, rfl⟩; rw [HU.out])
        go_ret
        exact ⟨congrArg Ending.returned HV.out.symm, hb⟩
      · have HV := Lib.hid (show E = .nilIface by rw [HR.out, hd, hu]; rfl)
        have HU := Lib.hid hu
        clear hd hu
        go_wp2_with (go_at_call 24; refine (sets_Things _ _).mono ?_; rintro e w' ⟨rfl, rfl⟩; rw [HU.out])
        go_ret
        exact ⟨congrArg Ending.returned HV.out.symm, hb⟩

set_option maxHeartbeats 1000000 in
/-- core.So's closure: a formula does not hold in the world that it has. -/
theorem core_So1 (sa sc : Value) (l : List Venn.Atom) (c : List Int) (g : Nat) (th a b d : Int) (w : World) (ha : IsAtoms w sa l) (hc : IsInts w sc c) (hk : KindsOk w) (hB : Blk w g 45 #[.int .i64 th, .int .i64 a, .int .i64 b, .int .i64 d])
    (hok : Venn.formChk ⟨l, c⟩ = 0) (hw : Venn.worldChk ⟨th, a, b, d⟩ = 0) :
    Calls Tryz.prog 82 #[.agg #[sa, sc], .pointer (some ⟨g, 0, none⟩)] w (Keeps (.bool (!Venn.formTrue ⟨l, c⟩ ⟨th, a, b, d⟩)) w) := by
  obtain ⟨sA, sN, rfl⟩ := ha.slice
  obtain ⟨tA, tN, rfl⟩ := hc.slice
  obtain ⟨c0, c1, c2, c3⟩ := hB.cells4
  have hl := hB.lt
  have HA := Lib.hid ha
  have HC := Lib.hid hc
  have HK := Lib.hid hk
  have HF := Lib.hid hok
  have HW := Lib.hid hw
  clear ha hc hk hok hw
  go_enter Tryz.func82, Tryz.ntmps82
  go_wp2_with (go_at_call 44; refine (form_True _ _ l c _ _ _ _ _ (HA.out.keep (by (repeat' (first | (with_reducible exact Below.refl _ _) | (with_reducible assumption) | (with_reducible refine Below.next ?_ (by with_reducible assumption)) | (with_reducible refine Below.drew ?_) | (with_reducible refine Below.laid ?_ _) | (with_reducible refine Below.setCell ?_ ?_ _) | (with_reducible refine size_of ?_) | (with_reducible refine Nat.le_succ_of_le ?_) | go_size)))) (HC.out.keep (by (repeat' (first | (with_reducible exact Below.refl _ _) | (with_reducible assumption) | (with_reducible refine Below.next ?_ (by with_reducible assumption)) | (with_reducible refine Below.drew ?_) | (with_reducible refine Below.laid ?_ _) | (with_reducible refine Below.setCell ?_ ?_ _) | (with_reducible refine size_of ?_) | (with_reducible refine Nat.le_succ_of_le ?_) | go_size)))) (HK.out.keep (by (repeat' (first | (with_reducible exact Below.refl _ _) | (with_reducible assumption) | (with_reducible refine Below.next ?_ (by with_reducible assumption)) | (with_reducible refine Below.drew ?_) | (with_reducible refine Below.laid ?_ _) | (with_reducible refine Below.setCell ?_ ?_ _) | (with_reducible refine size_of ?_) | (with_reducible refine Nat.le_succ_of_le ?_) | go_size)))) HF.out HW.out).mono ?_; rintro e w1 ⟨rfl, hb1⟩)
  go_ret
  exact ⟨rfl, by (repeat' (first | (with_reducible exact Below.refl _ _) | (with_reducible assumption) | (with_reducible refine Below.next ?_ (by with_reducible assumption)) | (with_reducible refine Below.drew ?_) | (with_reducible refine Below.laid ?_ _) | (with_reducible refine Below.setCell ?_ ?_ _) | (with_reducible refine size_of ?_) | (with_reducible refine Nat.le_succ_of_le ?_) | go_size))⟩

/-- The first that does not hold. -/
def idxF (W : Venn.World) : List Venn.Form → Nat → Int
  | [], _ => -1
  | f :: r, k => if Venn.formTrue f W = true then idxF W r (k + 1) else k
theorem idxF_nonneg (W : Venn.World) : ∀ (l : List Venn.Form) (k : Nat), decide (0 ≤ idxF W l k) = !Venn.formsTrue l W := by
  intro l
  induction l with
  | nil => intro k; simp [idxF, Venn.formsTrue]
  | cons f l ih =>
    intro k
    unfold idxF
    have e : Venn.formsTrue (f :: l) W = (Venn.formTrue f W && Venn.formsTrue l W) := rfl
    by_cases h : Venn.formTrue f W = true
    · rw [if_pos h, ih, e, h, Bool.true_and]
    · have h' : Venn.formTrue f W = false := by simpa using h
      rw [if_neg h, e, h']; simp
set_option maxHeartbeats 2000000 in
set_option maxRecDepth 100000 in
theorem core_IndexFunc (v : Value) (l : List Venn.Form) (g : Nat) (th a b d : Int) (w : World) (hl : IsForms w v l) (hk : KindsOk w) (hB : Blk w g 45 #[.int .i64 th, .int .i64 a, .int .i64 b, .int .i64 d])
    (hok : ∀ f ∈ l, Venn.formChk f = 0) (hw : Venn.worldChk ⟨th, a, b, d⟩ = 0) :
    Calls Tryz.prog 105 #[v, .func (.func 82) #[] #[.pointer (some ⟨g, 0, none⟩)]] w (Keeps (.int .i64 (idxF ⟨th, a, b, d⟩ l 0)) w) := by
  obtain ⟨A, cA, rfl, hra, hla, hlb⟩ := hl
  have hlb' := hlb
  unfold maxLen at hlb'
  obtain ⟨E, hE⟩ : ∃ E, E = idxF ⟨th, a, b, d⟩ l 0 := ⟨_, rfl⟩
  rw [← hE]
  have HE := Lib.hid hE
  have HK := Lib.hid hk
  have HRA := Lib.hid hra
  have HOK := Lib.hid hok
  have HW := Lib.hid hw
  have HB := Lib.hid hB
  have hcf : ∀ args W, (callFunc 82 args).run Tryz.prog W = .ok (.enter 82 args) W := fun args W => callFunc_enter Tryz.func82 (by kernel_rfl) rfl args W
  clear hE hk hra hok hw hB
  go_enter Tryz.func105, Tryz.ntmps105
  go_wp2
  go_loopw [8] (fun i wr => ∃ k : Nat, k ≤ l.length ∧ i = .int .i64 k ∧ Below w.heap.size w wr ∧ E = idxF ⟨th, a, b, d⟩ (l.drop k) k) (fun i _ => l.length - (intOf i).toNat)
  case atStart => exact ⟨0, Nat.zero_le _, rfl, by (repeat' (first | (with_reducible exact Below.refl _ _) | (with_reducible assumption) | (with_reducible refine Below.next ?_ (by with_reducible assumption)) | (with_reducible refine Below.drew ?_) | (with_reducible refine Below.laid ?_ _) | (with_reducible refine Below.setCell ?_ ?_ _) | (with_reducible refine size_of ?_) | (with_reducible refine Nat.le_succ_of_le ?_) | go_size)), by rw [List.drop_zero]; exact HE.out⟩
  case round =>
    obtain ⟨k, hk, rfl, hb, hrest⟩ := hrel
    obtain ⟨wo, rfl⟩ : ∃ wo : World, wo = wr := ⟨_, rfl⟩
    have HR := Lib.hid hrest
    clear hrest
    by_cases hlt : k < l.length
    · obtain ⟨ad, sa, sc, rfl, g0, g1, hs, ht⟩ := HRA.out k _ (List.getElem?_eq_getElem hlt)
      have HD := Lib.hid (List.drop_eq_getElem_cons hlt)
      have HO := Lib.hid (HOK.out _ (List.getElem_mem hlt))
      generalize l[k] = at_ at g0 g1 hs ht HD HO
      obtain ⟨fl, fc⟩ := at_
      simp only at g0 g1 hs ht
      have d0 := cell_keep hb g0
      have d1 := cell_keep hb g1
      obtain ⟨sA, sN, rfl⟩ := hs.slice
      obtain ⟨tA, tN, rfl⟩ := ht.slice
      have HSS := Lib.hid hs
      have HTT := Lib.hid ht
      clear g0 g1 hs ht
      have hk1 : (k : Int) < (l.length : Int) := by omega
      have hk0 : (0 : Int) ≤ (k : Int) := by omega
      cases hz : Venn.formTrue ⟨fl, fc⟩ ⟨th, a, b, d⟩
      · have HZ := Lib.hid hz
        have HV := Lib.hid (show E = k by rw [HR.out, HD.out, idxF, hz]; rfl)
        clear hz
        go_wp2_with (go_at_call 82; refine (core_So1 _ _ fl fc g _ _ _ _ _ (HSS.out.keep (by (repeat' (first | (with_reducible exact Below.refl _ _) | (with_reducible assumption) | (with_reducible refine Below.next ?_ (by with_reducible assumption)) | (with_reducible refine Below.drew ?_) | (with_reducible refine Below.laid ?_ _) | (with_reducible refine Below.setCell ?_ ?_ _) | (with_reducible refine size_of ?_) | (with_reducible refine Nat.le_succ_of_le ?_) | go_size)))) (HTT.out.keep (by (repeat' (first | (with_reducible exact Below.refl _ _) | (with_reducible assumption) | (with_reducible refine Below.next ?_ (by with_reducible assumption)) | (with_reducible refine Below.drew ?_) | (with_reducible refine Below.laid ?_ _) | (with_reducible refine Below.setCell ?_ ?_ _) | (with_reducible refine size_of ?_) | (with_reducible refine Nat.le_succ_of_le ?_) | go_size)))) (HK.out.keep (by (repeat' (first | (with_reducible exact Below.refl _ _) | (with_reducible assumption) | (with_reducible refine Below.next ?_ (by with_reducible assumption)) | (with_reducible refine Below.drew ?_) | (with_reducible refine Below.laid ?_ _) | (with_reducible refine Below.setCell ?_ ?_ _) | (with_reducible refine size_of ?_) | (with_reducible refine Nat.le_succ_of_le ?_) | go_size)))) (HB.out.keep (by (repeat' (first | (with_reducible exact Below.refl _ _) | (with_reducible assumption) | (with_reducible refine Below.next ?_ (by with_reducible assumption)) | (with_reducible refine Below.drew ?_) | (with_reducible refine Below.laid ?_ _) | (with_reducible refine Below.setCell ?_ ?_ _) | (with_reducible refine size_of ?_) | (with_reducible refine Nat.le_succ_of_le ?_) | go_size)))) HO.out HW.out).mono ?_; rintro e w1 ⟨rfl, hb1⟩; rw [HZ.out])
        go_ret
        exact ⟨ret_int HV.out.symm, by (repeat' (first | (with_reducible exact Below.refl _ _) | (with_reducible assumption) | (with_reducible refine Below.next ?_ (by with_reducible assumption)) | (with_reducible refine Below.drew ?_) | (with_reducible refine Below.laid ?_ _) | (with_reducible refine Below.setCell ?_ ?_ _) | (with_reducible refine size_of ?_) | (with_reducible refine Nat.le_succ_of_le ?_) | go_size))⟩
      · have HZ := Lib.hid hz
        have HV := Lib.hid (show E = idxF ⟨th, a, b, d⟩ (l.drop (k + 1)) (k + 1) by rw [HR.out, HD.out, idxF, hz]; rfl)
        clear hz
        go_wp2_with (go_at_call 82; refine (core_So1 _ _ fl fc g _ _ _ _ _ (HSS.out.keep (by (repeat' (first | (with_reducible exact Below.refl _ _) | (with_reducible assumption) | (with_reducible refine Below.next ?_ (by with_reducible assumption)) | (with_reducible refine Below.drew ?_) | (with_reducible refine Below.laid ?_ _) | (with_reducible refine Below.setCell ?_ ?_ _) | (with_reducible refine size_of ?_) | (with_reducible refine Nat.le_succ_of_le ?_) | go_size)))) (HTT.out.keep (by (repeat' (first | (with_reducible exact Below.refl _ _) | (with_reducible assumption) | (with_reducible refine Below.next ?_ (by with_reducible assumption)) | (with_reducible refine Below.drew ?_) | (with_reducible refine Below.laid ?_ _) | (with_reducible refine Below.setCell ?_ ?_ _) | (with_reducible refine size_of ?_) | (with_reducible refine Nat.le_succ_of_le ?_) | go_size)))) (HK.out.keep (by (repeat' (first | (with_reducible exact Below.refl _ _) | (with_reducible assumption) | (with_reducible refine Below.next ?_ (by with_reducible assumption)) | (with_reducible refine Below.drew ?_) | (with_reducible refine Below.laid ?_ _) | (with_reducible refine Below.setCell ?_ ?_ _) | (with_reducible refine size_of ?_) | (with_reducible refine Nat.le_succ_of_le ?_) | go_size)))) (HB.out.keep (by (repeat' (first | (with_reducible exact Below.refl _ _) | (with_reducible assumption) | (with_reducible refine Below.next ?_ (by with_reducible assumption)) | (with_reducible refine Below.drew ?_) | (with_reducible refine Below.laid ?_ _) | (with_reducible refine Below.setCell ?_ ?_ _) | (with_reducible refine size_of ?_) | (with_reducible refine Nat.le_succ_of_le ?_) | go_size)))) HO.out HW.out).mono ?_; rintro e w1 ⟨rfl, hb1⟩; rw [HZ.out])
        go_roundw
        case rel => exact ⟨k + 1, by omega, by go_num, by (repeat' (first | (with_reducible exact Below.refl _ _) | (with_reducible assumption) | (with_reducible refine Below.next ?_ (by with_reducible assumption)) | (with_reducible refine Below.drew ?_) | (with_reducible refine Below.laid ?_ _) | (with_reducible refine Below.setCell ?_ ?_ _) | (with_reducible refine size_of ?_) | (with_reducible refine Nat.le_succ_of_le ?_) | go_size)), HV.out⟩
        case measure => simp [intOf]; omega
    · have HV := Lib.hid (show E = -1 by rw [HR.out, List.drop_eq_nil_of_le (by omega)]; rfl)
      go_wp2
      go_ret
      exact ⟨ret_int HV.out.symm, hb⟩

set_option maxHeartbeats 1000000 in
theorem core_So (v : Value) (l : List Venn.Form) (th a b d : Int) (w : World) (hl : IsForms w v l) (hk : KindsOk w) (hok : ∀ f ∈ l, Venn.formChk f = 0) (hw : Venn.worldChk ⟨th, a, b, d⟩ = 0) :
    Calls Tryz.prog 51 #[v, .agg #[.int .i64 th, .int .i64 a, .int .i64 b, .int .i64 d]] w (Keeps (.bool (Venn.formsTrue l ⟨th, a, b, d⟩)) w) := by
  obtain ⟨A, cA, rfl, hra, hla, hlb⟩ := hl
  have HL := Lib.hid (show IsForms w (.slice A l.length cA) l from ⟨A, cA, rfl, hra, hla, hlb⟩)
  have HK := Lib.hid hk
  have HOK := Lib.hid hok
  have HW := Lib.hid hw
  have HN := Lib.hid (idxF_nonneg ⟨th, a, b, d⟩ l 0)
  have HC : ∀ g W, IsForms W (.slice A l.length cA) l → KindsOk W → Blk W g 45 #[.int .i64 th, .int .i64 a, .int .i64 b, .int .i64 d] →
      Calls Tryz.prog 81 #[.slice A l.length cA, .func (.func 82) #[] #[.pointer (some ⟨g, 0, none⟩)]] W (Keeps (.bool (!Venn.formsTrue l ⟨th, a, b, d⟩)) W) := by
    intro g W h1 h2 h3
    have HI := Lib.hid (core_IndexFunc _ l g th a b d W h1 h2 h3 HOK.out HW.out)
    clear h1 h2 h3
    rw [← HN.out]
    generalize idxF ⟨th, a, b, d⟩ l 0 = I at HI
    go_enter Tryz.func81, Tryz.ntmps81
    go_wp2_with (go_at_call 105; refine (HI.out).mono ?_; rintro e w1 ⟨rfl, hb1⟩)
    all_goals
      go_ret
      exact ⟨by simp_all, by (repeat' (first | (with_reducible exact Below.refl _ _) | (with_reducible assumption) | (with_reducible refine Below.next ?_ (by with_reducible assumption)) | (with_reducible refine Below.drew ?_) | (with_reducible refine Below.laid ?_ _) | (with_reducible refine Below.setCell ?_ ?_ _) | (with_reducible refine size_of ?_) | (with_reducible refine Nat.le_succ_of_le ?_) | go_size))⟩
  have HCC := Lib.hid HC
  clear HC hra hk hok hw
  go_enter Tryz.func51, Tryz.ntmps51
  go_wp2_with (go_at_call 81; refine (HCC.out _ _ (HL.out.keep (by (repeat' (first | (with_reducible exact Below.refl _ _) | (with_reducible assumption) | (with_reducible refine Below.next ?_ (by with_reducible assumption)) | (with_reducible refine Below.drew ?_) | (with_reducible refine Below.laid ?_ _) | (with_reducible refine Below.setCell ?_ ?_ _) | (with_reducible refine size_of ?_) | (with_reducible refine Nat.le_succ_of_le ?_) | go_size)))) (HK.out.keep (by (repeat' (first | (with_reducible exact Below.refl _ _) | (with_reducible assumption) | (with_reducible refine Below.next ?_ (by with_reducible assumption)) | (with_reducible refine Below.drew ?_) | (with_reducible refine Below.laid ?_ _) | (with_reducible refine Below.setCell ?_ ?_ _) | (with_reducible refine size_of ?_) | (with_reducible refine Nat.le_succ_of_le ?_) | go_size)))) (Blk.new _ _ _)).mono ?_; rintro e w1 ⟨rfl, hb1⟩)
  go_ret
  exact ⟨by simp, by (repeat' (first | (with_reducible exact Below.refl _ _) | (with_reducible assumption) | (with_reducible refine Below.next ?_ (by with_reducible assumption)) | (with_reducible refine Below.drew ?_) | (with_reducible refine Below.laid ?_ _) | (with_reducible refine Below.setCell ?_ ?_ _) | (with_reducible refine size_of ?_) | (with_reducible refine Nat.le_succ_of_le ?_) | go_size))⟩
end Go.Proofs.YtjnjgcibhjdmdaaGreatDoor

namespace Go.Proofs.YtjnjgcibhjdmdaaGreatDoor
open Go.RowKit

theorem aCells_set : ∀ (p1 : List AV) (x : AV) (rest : List AV) (sv tv : Value), ((aCells (p1 ++ x :: rest)).set (p1.length * 4 + 1) sv).set (p1.length * 4 + 2) tv = aCells (p1 ++ (x.1, sv, tv) :: rest) := by
  intro p1
  induction p1 with
  | nil => intro x rest sv tv; rfl
  | cons y p1 ih =>
    intro x rest sv tv
    rw [List.length_cons, Nat.succ_mul, show p1.length * 4 + 4 + 1 = p1.length * 4 + 1 + 4 by omega, show p1.length * 4 + 4 + 2 = p1.length * 4 + 2 + 4 by omega]
    simp only [List.cons_append, aCells, List.set_cons_succ]
    rw [ih]
theorem own_cons {w : World} {base : Nat} {e : TypeId} {size : Nat} {v : Value} {n : Nat} {xs : List Value} (h : w.ownsRow base e size v n xs) (hn : 0 < n) :
    ∃ g cap cur, v = .slice (some ⟨g, 0, none⟩) n cap ∧ base ≤ g ∧ Blk w g e cur ∧ n ≤ cap ∧ cap ≤ maxLen ∧ cur.size = cap * size ∧ cur.toList.take (n * size) = xs := by
  rcases h.2 with ⟨_, h0⟩ | ⟨g, cap, cur, e1, e2, e3, e4, e5, e6, e7⟩
  · omega
  · exact ⟨g, cap, cur, e1, e2, e3, e4, e5, e6, e7⟩

/-- A formula of a call's own: its two rows, and what its atoms' slices hold. -/
structure OwnForm (B : Nat) (w' : World) (va vc : Value) (p : List AV) (c : List Int) : Prop where
  aRow : w'.ownsRow B 32 4 va p.length (aCells p)
  cRow : w'.ownsRow B 3 1 vc c.length (c.map (Value.int .i64))
  ok : AOk w' p
  ne : ∀ a b, va.ownBlock = some a → vc.ownBlock = some b → a < b
  far : ∀ x ∈ p, ∀ b, (x.2.1.ownBlock = some b ∨ x.2.2.ownBlock = some b) → B ≤ b ∧ va.ownBlock ≠ some b ∧ vc.ownBlock ≠ some b
def OwnPost (l : List Venn.Atom) (c : List Int) (w : World) (e : Ending) (w' : World) : Prop :=
  ∃ (p : List AV) (ga ka gc kc : Nat), e = .returned (.agg #[.slice (some ⟨ga, 0, none⟩) l.length ka, .slice (some ⟨gc, 0, none⟩) c.length kc]) ∧ Below w.heap.size w w' ∧ p.map (fun x : AV => x.1) = l ∧
    OwnForm w.heap.size w' (.slice (some ⟨ga, 0, none⟩) l.length ka) (.slice (some ⟨gc, 0, none⟩) c.length kc) p c
theorem OwnForm.isAtoms {B : Nat} {w : World} {va vc : Value} {p : List AV} {c : List Int} (h : OwnForm B w va vc p c) : IsAtoms w va (p.map (fun x : AV => x.1)) := atoms_of_own h.aRow h.ok
theorem OwnForm.isInts {B : Nat} {w : World} {va vc : Value} {p : List AV} {c : List Int} (h : OwnForm B w va vc p c) : IsInts w vc c := IsInts.of_own h.cRow

theorem OwnForm.but {C : Nat → Prop} {B : Nat} {w w' : World} {va vc : Value} {p : List AV} {c : List Int} (h : OwnForm B w va vc p c) (hb : But C w w') (hc : ∀ b, C b → b < B) : OwnForm B w' va vc p c :=
  ⟨own_but h.aRow hb fun b e hC => by have := (h.aRow.lt b e).1; have := hc b hC; omega, own_but h.cRow hb fun b e hC => by have := (h.cRow.lt b e).1; have := hc b hC; omega,
    h.ok.but hb fun x hx b e hC => by have := (h.far x hx b e).1; have := hc b hC; omega, h.ne, h.far⟩
theorem OwnForm.mono {B B' : Nat} {w : World} {va vc : Value} {p : List AV} {c : List Int} (h : OwnForm B w va vc p c) (hb : B' ≤ B) : OwnForm B' w va vc p c :=
  ⟨own_base h.aRow hb, own_base h.cRow hb, h.ok, h.ne, fun x hx b e => ⟨Nat.le_trans hb (h.far x hx b e).1, (h.far x hx b e).2⟩⟩
theorem OwnForm.keep {B : Nat} {w w' : World} {va vc : Value} {p : List AV} {c : List Int} (h : OwnForm B w va vc p c) (hb : Below w.heap.size w w') : OwnForm B w' va vc p c :=
  h.but (But.of_below (C := fun _ => False) hb) fun _ h => h.elim
/-- The loop's state: k atoms have their own slices. -/
structure OwnAt (w wr : World) (p p1 : List AV) (va vc : Value) (ga ka gc : Nat) (qc cur : Array Value) (k : Nat) : Prop where
  below : Below w.heap.size w wr
  box : Blk wr w.heap.size 38 #[va, vc]
  res : Blk wr (w.heap.size + 1) 38 #[.slice none 0 0, .slice none 0 0]
  row : Blk wr ga 32 cur
  size : cur.size = ka * 4
  cells : cur.toList.take (p.length * 4) = aCells (p1 ++ p.drop k)
  done : p1.map (fun x : AV => x.1) = (p.take k).map (fun x : AV => x.1)
  ok : AOk wr p1
  far : ∀ x ∈ p1, ∀ b, (x.2.1.ownBlock = some b ∨ x.2.2.ownBlock = some b) → gc < b
  code : Blk wr gc 3 qc
  lo : w.heap.size + 1 < ga
  lt : ga < gc
theorem OwnAt.step {w wr w2 : World} {p p1 : List AV} {va vc : Value} {ga ka gc : Nat} {qc cur : Array Value} {k : Nat} (h : OwnAt w wr p p1 va vc ga ka gc qc cur k) {x : AV} (hx : p[k]? = some x) (hb : Below wr.heap.size wr w2)
    {sv tv : Value} (hs : IsInts w2 sv x.1.s) (ht : IsInts w2 tv x.1.t) (hsb : ∀ b, sv.ownBlock = some b → wr.heap.size ≤ b) (htb : ∀ b, tv.ownBlock = some b → wr.heap.size ≤ b) :
    OwnAt w ((w2.setCell ⟨ga, k * 4 + 1, none⟩ sv).setCell ⟨ga, k * 4 + 2, none⟩ tv) p (p1 ++ [(x.1, sv, tv)]) va vc ga ka gc qc ((cur.setIfInBounds (k * 4 + 1) sv).setIfInBounds (k * 4 + 2) tv) (k + 1) := by
  have hk := (List.getElem?_eq_some_iff.1 hx).1
  have hxe := (List.getElem?_eq_some_iff.1 hx).2
  have hgl := h.row.lt
  have hcl := h.code.lt
  have hlen : p1.length = k := by
    have := congrArg List.length h.done
    simp only [List.length_map, List.length_take] at this
    omega
  have hbut : But (fun b => b = ga) w2 ((w2.setCell ⟨ga, k * 4 + 1, none⟩ sv).setCell ⟨ga, k * 4 + 2, none⟩ tv) :=
    ((But.refl (fun b => b = ga) w2).set_ (p := ⟨ga, k * 4 + 1, none⟩) rfl sv).set_ (p := ⟨ga, k * 4 + 2, none⟩) rfl tv
  have hlo := h.lo
  have hlt := h.lt
  refine ⟨?_, ?_, ?_, ?_, ?_, ?_, ?_, ?_, ?_, ?_, hlo, hlt⟩
  · exact ((Below.next h.below hb).setCell (by show w.heap.size ≤ ga; omega) _).setCell (by show w.heap.size ≤ ga; omega) _
  · exact (h.box.keep hb).but hbut (by omega)
  · exact (h.res.keep hb).but hbut (by omega)
  · exact ((h.row.keep hb).set_ _ _).set_ _ _
  · simpa using h.size
  · have e := h.cells
    rw [List.drop_eq_getElem_cons hk, hxe] at e
    rw [Array.toList_setIfInBounds, Array.toList_setIfInBounds, List.take_set, List.take_set, e, ← hlen, aCells_set, hlen]
    simp
  · rw [List.map_append, h.done, List.take_succ_eq_append_getElem hk, List.map_append, hxe]
    rfl
  · intro y hy
    rcases List.mem_append.1 hy with hy | hy
    · have hf := h.far y hy
      exact ⟨((h.ok y hy).1.keep hb).but hbut fun b e => by have := hf b (.inl e); omega, ((h.ok y hy).2.keep hb).but hbut fun b e => by have := hf b (.inr e); omega⟩
    · rw [List.mem_singleton.1 hy]
      exact ⟨hs.but hbut fun b e => by have := hsb b e; omega, ht.but hbut fun b e => by have := htb b e; omega⟩
  · intro y hy b e
    rcases List.mem_append.1 hy with hy | hy
    · exact h.far y hy b e
    · rw [List.mem_singleton.1 hy] at e
      rcases e with e | e
      · have := hsb b e; omega
      · have := htb b e; omega
  · exact (h.code.keep hb).but hbut (by omega)
theorem OwnAt.cur {w wr : World} {p p1 : List AV} {va vc : Value} {ga ka gc : Nat} {qc cur : Array Value} {k : Nat} (h : OwnAt w wr p p1 va vc ga ka gc qc cur k) {x : AV} (hx : p[k]? = some x) :
    cur[k * 4]? = some (.int .i64 x.1.what) ∧ cur[k * 4 + 1]? = some x.2.1 ∧ cur[k * 4 + 2]? = some x.2.2 ∧ cur[k * 4 + 3]? = some (.int .i64 x.1.n) := by
  have hk := (List.getElem?_eq_some_iff.1 hx).1
  have hxe := (List.getElem?_eq_some_iff.1 hx).2
  have hlen : p1.length = k := by
    have := congrArg List.length h.done
    simp only [List.length_map, List.length_take] at this
    omega
  have hat : (p1 ++ p.drop k)[k]? = some x := by
    rw [List.drop_eq_getElem_cons hk, hxe, ← hlen]
    simp
  have key : ∀ i, i < p.length * 4 → cur[i]? = (aCells (p1 ++ p.drop k))[i]? := fun i hi => by
    rw [← h.cells, List.getElem?_take, if_pos hi]
    simp
  obtain ⟨c0, c1, c2, c3⟩ := aCells_at _ _ _ hat
  exact ⟨(key _ (by omega)).trans c0, (key _ (by omega)).trans c1, (key _ (by omega)).trans c2, (key _ (by omega)).trans c3⟩
theorem held_own {W : World} {f x : Nat} {tF tA : TypeId} {va vc a0 a3 sv tv : Value} (hB : Blk W f tF #[va, vc]) (hX : Blk W x tA #[a0, sv, tv, a3]) :
    W.cell? ⟨f, 0, none⟩ = some va ∧ W.cell? ⟨x, 1, none⟩ = some sv ∧ W.cell? ⟨x, 2, none⟩ = some tv := ⟨hB.cell 0, hX.cell 1, hX.cell 2⟩
/-- The loop's beginning: the two rows are copied. -/
def OwnStart (w wx : World) (p : List AV) (c : List Int) : Prop := ∃ (ga ka : Nat) (qa : Array Value) (gc kc : Nat) (qc : Array Value),
  OwnAt w wx p [] (.slice (some ⟨ga, 0, none⟩) p.length ka) (.slice (some ⟨gc, 0, none⟩) c.length kc) ga ka gc qc qa 0 ∧ p.length ≤ ka ∧ ka ≤ maxLen ∧ c.length ≤ kc ∧ kc ≤ maxLen ∧ qc.size = kc * 1 ∧ qc.toList.take (c.length * 1) = c.map (Value.int .i64)
/-- The loop's end. -/
theorem OwnAt.post {w wr : World} {p p1 : List AV} {c : List Int} {ga ka gc kc : Nat} {qc cur : Array Value} (h : OwnAt w wr p p1 (.slice (some ⟨ga, 0, none⟩) p.length ka) (.slice (some ⟨gc, 0, none⟩) c.length kc) ga ka gc qc cur p.length)
    (h1 : p.length ≤ ka) (h2 : ka ≤ maxLen) (h3 : c.length ≤ kc) (h4 : kc ≤ maxLen) (h5 : qc.size = kc * 1) (h6 : qc.toList.take (c.length * 1) = c.map (Value.int .i64)) :
    OwnForm (w.heap.size + 2) wr (.slice (some ⟨ga, 0, none⟩) p.length ka) (.slice (some ⟨gc, 0, none⟩) c.length kc) p1 c ∧ p1.map (fun x : AV => x.1) = p.map (fun x : AV => x.1) := by
  have hd : p1.map (fun x : AV => x.1) = p.map (fun x : AV => x.1) := by rw [h.done, List.take_length]
  have hlen : p1.length = p.length := by simpa using congrArg List.length hd
  have hlo := h.lo
  have hlt := h.lt
  have e := h.cells
  rw [List.drop_length, List.append_nil] at e
  refine ⟨⟨⟨by rw [aCells_len], .inr ⟨ga, ka, cur, by rw [hlen], by omega, h.row, by omega, h2, h.size, by rw [hlen]; exact e⟩⟩,
    ⟨by simp, .inr ⟨gc, kc, qc, rfl, by omega, h.code, h3, h4, h5, h6⟩⟩, h.ok, fun a b ea eb => ?_, fun x hx b eb => ?_⟩, hd⟩
  · simp only [Value.ownBlock, Option.some.injEq] at ea eb
    omega
  · have := h.far x hx b eb
    simp only [Value.ownBlock, ne_eq, Option.some.injEq]
    omega
theorem form_small {l : List Venn.Atom} {c : List Int} (h : Venn.formChk ⟨l, c⟩ = 0) : (0 < l.length ∧ l.length ≤ 6) ∧ (0 < c.length ∧ c.length ≤ 20) ∧ ∀ a ∈ l, a.s.length ≤ 12 ∧ a.t.length ≤ 12 := by
  obtain ⟨h1, h2, h3, h4, h5, _, _⟩ := Venn.formChk_parts h
  have ht : ∀ {t : List Int}, Venn.termChk t = 0 → t.length ≤ 12 := fun {t} h => by
    unfold Venn.termChk at h
    split at h
    · cases h
    split at h
    · cases h
    omega
  refine ⟨⟨h1, h2⟩, ⟨h3, h4⟩, fun a ha => ?_⟩
  obtain ⟨_, _, hs, ht1, ht2, _⟩ := Venn.atomChk_parts (Venn.atomsChk_mem h5 a ha)
  refine ⟨ht hs, ?_⟩
  cases hT : Venn.hasT a.what
  · rw [ht2 hT]; simp
  · exact ht (ht1 hT)

set_option maxHeartbeats 4000000 in
set_option maxRecDepth 100000 in
theorem form_Own (sa sc : Value) (l : List Venn.Atom) (c : List Int) (w : World) (ha : IsAtoms w sa l) (hc : IsInts w sc c) (hf : Venn.formChk ⟨l, c⟩ = 0) :
    Calls Tryz.prog 33 #[.agg #[sa, sc]] w (OwnPost l c w) := by
  obtain ⟨⟨hl0, hl6⟩, ⟨hc0, hc20⟩, hst⟩ := form_small hf
  obtain ⟨A, cA, p, rfl, hpl, hrA, hpA, hA1, hA2⟩ := atoms_open ha
  obtain ⟨C, cC, rfl⟩ := hc.slice
  have hplen : p.length = l.length := by rw [← hpl]; simp
  obtain ⟨ad, rfl⟩ : ∃ ad, A = some ad := by
    obtain ⟨x, hx⟩ : ∃ x, p[0]? = some x := ⟨p[0]'(by omega), List.getElem?_eq_getElem (by omega)⟩
    obtain ⟨ad, e, _⟩ := hrA _ _ (aCells_at p 0 x hx).1
    exact ⟨ad, e⟩
  subst hpl
  have HRA := Lib.hid hrA
  have HPA := Lib.hid hpA
  have HC := Lib.hid hc
  have HST := Lib.hid hst
  have hp0 : 0 < p.length := by omega
  have hp6 : p.length ≤ 6 := by omega
  clear ha hc hf hrA hpA hst hplen hl0 hl6
  go_enter Tryz.func33, Tryz.ntmps33
  go_wp2_with fail
  have BF := (Blk.new w 38 #[.slice (some ad) p.length cA, .slice C c.length cC]).alloc (.cells #[.slice none 0 0, .slice none 0 0] 38)
  have BR := Blk.newAt (w := w.alloc (.cells #[.slice (some ad) p.length cA, .slice C c.length cC] 38)) (g := w.heap.size + 1) (by simp) 38 #[.slice none 0 0, .slice none 0 0]
  go_cut [7] (fun s7 wx => OwnStart w wx p c)
  case first =>
    go_region_law (first
      | (go_simp; go_at_call 60; refine (clone_atoms ad cA p _ (HRA.out.keep (by (repeat' (first | (with_reducible exact Below.refl _ _) | (with_reducible assumption) | (with_reducible refine Below.next ?_ (by with_reducible assumption)) | (with_reducible refine Below.drew ?_) | (with_reducible refine Below.laid ?_ _) | (with_reducible refine Below.setCell ?_ ?_ _) | (with_reducible refine size_of ?_) | (with_reducible refine Nat.le_succ_of_le ?_) | go_size)))) (HPA.out.keep (by (repeat' (first | (with_reducible exact Below.refl _ _) | (with_reducible assumption) | (with_reducible refine Below.next ?_ (by with_reducible assumption)) | (with_reducible refine Below.drew ?_) | (with_reducible refine Below.laid ?_ _) | (with_reducible refine Below.setCell ?_ ?_ _) | (with_reducible refine size_of ?_) | (with_reducible refine Nat.le_succ_of_le ?_) | go_size)))) (by omega)).mono ?_; rintro e w1 ⟨va, rfl, hb1, hown1⟩
         obtain ⟨ga, ka, qa, rfl, hga, BA, hka1, hka2, hka3, hka4⟩ := own_cons hown1 hp0
         have BF1 := BF.drew.keep hb1; have BR1 := BR.drew.keep hb1; obtain ⟨⟨d0, d1⟩, e0, e1⟩ := BF1.cells2; have hl1 := BF1.lt)
      | (go_simp; go_at_call 61; refine (clone_ints _ c _ (HC.out.keep (by (repeat' (first | (with_reducible exact Below.refl _ _) | (with_reducible assumption) | (with_reducible refine Below.next ?_ (by with_reducible assumption)) | (with_reducible refine Below.drew ?_) | (with_reducible refine Below.laid ?_ _) | (with_reducible refine Below.setCell ?_ ?_ _) | (with_reducible refine size_of ?_) | (with_reducible refine Nat.le_succ_of_le ?_) | go_size)))) (by omega)).mono ?_; rintro e w2 ⟨vc, rfl, hb2, hown2⟩
         obtain ⟨gc, kc, qc, rfl, hgc, BC, hkc1, hkc2, hkc3, hkc4⟩ := own_cons hown2 hc0
         have BF2 := BF1.keep hb2; have BR2 := BR1.keep hb2; have BA2 := BA.keep hb2; obtain ⟨⟨f0, f1⟩, g0, g1⟩ := BF2.cells2; have hl2 := BF2.lt))
    all_goals
      go_wp2
      go_meet
      case rel =>
        have hlA := BA.lt
        simp at hga
        refine ⟨ga, ka, qa, gc, kc, qc, ⟨below_set2 (by (repeat' (first | (with_reducible exact Below.refl _ _) | (with_reducible assumption) | (with_reducible refine Below.next ?_ (by with_reducible assumption)) | (with_reducible refine Below.drew ?_) | (with_reducible refine Below.laid ?_ _) | (with_reducible refine Below.setCell ?_ ?_ _) | (with_reducible refine size_of ?_) | (with_reducible refine Nat.le_succ_of_le ?_) | go_size))) (Nat.le_refl _) _ _, BF2.set2 _ _, (BR2.far (p := ⟨w.heap.size, 0, none⟩) (by simp) _).far (p := ⟨w.heap.size, 1, none⟩) (by simp) _, (BA2.far (p := ⟨w.heap.size, 0, none⟩) (by show ¬ ga = w.heap.size; omega) _).far (p := ⟨w.heap.size, 1, none⟩) (by show ¬ ga = w.heap.size; omega) _, hka3,
          by rw [hka4]; rfl, rfl, (fun x hx => by cases hx), (fun x hx => by cases hx), (BC.far (p := ⟨w.heap.size, 0, none⟩) (by show ¬ gc = w.heap.size; omega) _).far (p := ⟨w.heap.size, 1, none⟩) (by show ¬ gc = w.heap.size; omega) _, by omega, by omega⟩, hka1, hka2, hkc1, hkc2, hkc3, hkc4⟩
  case rest =>
    obtain ⟨ga, ka, qa, gc, kc, qc, HI, hka1, hka2, hkc1, hkc2, hkc3, hkc4⟩ := hcut
    have HE := Lib.hid (And.intro hkc3 hkc4)
    have HI0 := Lib.hid HI
    obtain ⟨⟨d0, d1⟩, _⟩ := HI.box.cells2
    clear hkc3 hkc4 HI BF BR
    go_upto_region 3 with (fail)
    go_loopw [16] (fun i wr => ∃ (k : Nat) (p1 : List AV) (cur : Array Value), k ≤ p.length ∧ i = .int .i64 k ∧ OwnAt w wr p p1 (.slice (some ⟨ga, 0, none⟩) p.length ka) (.slice (some ⟨gc, 0, none⟩) c.length kc) ga ka gc qc cur k)
      (fun i _ => p.length - (intOf i).toNat)
    case atStart => exact ⟨0, [], qa, Nat.zero_le _, rfl, HI0.out⟩
    case round =>
      obtain ⟨k, p1, cur, hk, rfl, hAt⟩ := hrel
      obtain ⟨wo, rfl⟩ : ∃ wo : World, wo = wr := ⟨_, rfl⟩
      have HAT := Lib.hid hAt
      obtain ⟨⟨b0, b1⟩, _⟩ := hAt.box.cells2
      have BB := hAt.box
      have BW := hAt.row
      have hblw := hAt.below
      have hlo := hAt.lo
      clear d0 d1 hAt
      have hbl := BB.lt
      have hwl := BW.lt
      by_cases hlt : k < p.length
      · obtain ⟨⟨⟨aw, aS, aT, an⟩, sv, tv⟩, hx⟩ : ∃ x : AV, p[k]? = some x := ⟨p[k], List.getElem?_eq_getElem hlt⟩
        obtain ⟨hs, ht⟩ := HPA.out _ (List.mem_of_getElem? hx)
        obtain ⟨hs12, ht12⟩ := HST.out ⟨aw, aS, aT, an⟩ (List.mem_map.2 ⟨_, List.mem_of_getElem? hx, rfl⟩)
        simp only at hs ht
        obtain ⟨sA, sN, rfl, hs'⟩ := hs
        obtain ⟨tA, tN, rfl, ht'⟩ := ht
        have HSS := Lib.hid (show IsInts w (.slice sA aS.length sN) aS from ⟨sA, sN, rfl, hs'⟩)
        have HTT := Lib.hid (show IsInts w (.slice tA aT.length tN) aT from ⟨tA, tN, rfl, ht'⟩)
        obtain ⟨q0, q1, q2, q3⟩ := HAT.out.cur hx
        simp only at q0 q1 q2 q3 hs12 ht12
        have r0 := (BW.cell (k * 4)).trans q0
        have r1 := (BW.cell (k * 4 + 1)).trans q1
        have r2 := (BW.cell (k * 4 + 2)).trans q2
        have r3 := (BW.cell (k * 4 + 3)).trans q3
        have HQ := Lib.hid (And.intro q1 q2)
        have HX := Lib.hid hx
        have hk1 : (k : Int) < (p.length : Int) := by omega
        have hk0 : (0 : Int) ≤ (k : Int) := by omega
        clear hs' ht' hx q0 q1 q2 q3
        have hn1 : ¬ w.heap.size = ga := by omega
        have hn2 : ¬ ga = w.heap.size := by omega
        have hn3 : ¬ wo.heap.size = ga := by omega
        have hn4 : ¬ ga = wo.heap.size := by omega
        have hn5 : ¬ k * 4 + 2 = k * 4 + 1 := by omega
        go_wp2_with fail
        have BX := Blk.new wo 32 #[.int .i64 aw, .slice sA aS.length sN, .slice tA aT.length tN, .int .i64 an]
        have BB0 := BB.alloc (.cells #[.int .i64 aw, .slice sA aS.length sN, .slice tA aT.length tN, .int .i64 an] 32)
        have BW0 := BW.alloc (.cells #[.int .i64 aw, .slice sA aS.length sN, .slice tA aT.length tN, .int .i64 an] 32)
        go_region_held3 (fun w' => w'.cell? ⟨w.heap.size, 0, none⟩ = some (.slice (some ⟨ga, 0, none⟩) p.length ka) ∧ w'.cell? ⟨wo.heap.size, 1, none⟩ = some (.slice sA aS.length sN) ∧ w'.cell? ⟨wo.heap.size, 2, none⟩ = some (.slice tA aT.length tN))
          (first | with_reducible exact held_own BB0 BX | with_reducible exact held_own BB0.drew BX.drew | with_reducible exact held_own BB1 BX1 | with_reducible exact held_own BB2 BX2 | exact held_own (BB2.far (p := ⟨ga, k * 4 + 1, none⟩) hn1 _) (BX2.far (p := ⟨ga, k * 4 + 1, none⟩) hn3 _) | exact held_own ((BB2.far (p := ⟨ga, k * 4 + 1, none⟩) hn1 _).far (p := ⟨ga, k * 4 + 2, none⟩) hn1 _) ((BX2.far (p := ⟨ga, k * 4 + 1, none⟩) hn3 _).far (p := ⟨ga, k * 4 + 2, none⟩) hn3 _))
          (first
          | (go_at_call 61; revert HOS; intro HOS; refine (clone_ints _ aT _ (HTT.out.keep (by (repeat' (first | (with_reducible exact Below.refl _ _) | (with_reducible assumption) | (with_reducible refine Below.next ?_ (by with_reducible assumption)) | (with_reducible refine Below.drew ?_) | (with_reducible refine Below.laid ?_ _) | (with_reducible refine Below.setCell ?_ ?_ _) | (with_reducible refine size_of ?_) | (with_reducible refine Nat.le_succ_of_le ?_) | go_size)))) (by omega)).mono ?_; rintro e w2 ⟨v2, rfl, hb2, hown2⟩; obtain ⟨VA2, vc2, rfl⟩ := ownsRow_slice hown2
             have BB2 := BB1.keep hb2; have BW2 := BW1.keep hb2; have BX2 := BX1.keep hb2; have HOT := Lib.hid hown2
             obtain ⟨⟨y0, y1⟩, _⟩ := BB2.cells2; have y2 := (BW2.cell (k * 4 + 1)).trans HQ.out.1; have y3 := (BW2.cell (k * 4 + 2)).trans HQ.out.2; have y4 := BW2.frozen (k * 4 + 1); have y5 := BW2.frozen (k * 4 + 2); have y6 := BB2.lt; have y7 := BW2.lt; have y8 := BX2.lt)
          | (go_at_call 61; refine (clone_ints _ aS _ (HSS.out.keep (by (repeat' (first | (with_reducible exact Below.refl _ _) | (with_reducible assumption) | (with_reducible refine Below.next ?_ (by with_reducible assumption)) | (with_reducible refine Below.drew ?_) | (with_reducible refine Below.laid ?_ _) | (with_reducible refine Below.setCell ?_ ?_ _) | (with_reducible refine size_of ?_) | (with_reducible refine Nat.le_succ_of_le ?_) | go_size)))) (by omega)).mono ?_; rintro e w1 ⟨v1, rfl, hb1, hown1⟩; obtain ⟨VA1, vc1, rfl⟩ := ownsRow_slice hown1
             have HOS := Lib.hid hown1
             first
             | (have BB1 := BB0.keep hb1; have BW1 := BW0.keep hb1; have BX1 := BX.keep hb1)
             | (have BB1 := BB0.drew.keep hb1; have BW1 := BW0.drew.keep hb1; have BX1 := BX.drew.keep hb1)
             have x6 := BB1.lt; have x7 := BW1.lt; have x8 := BX1.lt))
        all_goals
          go_wp2
          go_roundw
          case rel =>
            refine ⟨k + 1, _, _, by omega, by go_num, HAT.out.step HX.out ?_ ?_ ?_ ?_ ?_⟩
            · (repeat' (first | (with_reducible exact Below.refl _ _) | (with_reducible assumption) | (with_reducible refine Below.next ?_ (by with_reducible assumption)) | (with_reducible refine Below.drew ?_) | (with_reducible refine Below.laid ?_ _) | (with_reducible refine Below.setCell ?_ ?_ _) | (with_reducible refine size_of ?_) | (with_reducible refine Nat.le_succ_of_le ?_) | go_size))
            · exact (IsInts.of_own HOS.out).keep hb2
            · exact IsInts.of_own HOT.out
            · intro b e
              have := (HOS.out.lt b e).1
              simp at this
              omega
            · intro b e
              have h1 := (HOT.out.lt b e).1
              have h2 := hb1.size
              simp at h2
              omega
          case measure => simp [intOf]; omega
      · have hk' : k = p.length := by omega
        subst hk'
        obtain ⟨HF, hmap⟩ := HAT.out.post hka1 hka2 hkc1 hkc2 HE.out.1 HE.out.2
        have HFF := Lib.hid (And.intro HF hmap)
        have BR := HAT.out.res
        obtain ⟨⟨e0, e1⟩, f0, f1⟩ := BR.cells2
        have GL := below_set2 HAT.out.below (show w.heap.size ≤ w.heap.size + 1 by omega) (.slice (some ⟨ga, 0, none⟩) p.length ka) (.slice (some ⟨gc, 0, none⟩) c.length kc)
        have GS := BR.set2 (.slice (some ⟨ga, 0, none⟩) p.length ka) (.slice (some ⟨gc, 0, none⟩) c.length kc)
        have GF := HF.but (((But.refl (fun b => b = w.heap.size + 1) wo).set_ (p := ⟨w.heap.size + 1, 0, none⟩) rfl (.slice (some ⟨ga, 0, none⟩) p.length ka)).set_ (p := ⟨w.heap.size + 1, 1, none⟩) rfl (.slice (some ⟨gc, 0, none⟩) c.length kc)) (by omega)
        clear HF hmap HI0
        go_wp2
        clear e0 e1 f0 f1
        revert GL GS GF
        generalize World.setCell _ _ _ = Wf
        intro GL GS GF
        obtain ⟨⟨e0, e1⟩, _⟩ := GS.cells2
        refine bodyPost_ret (v := .agg #[.slice (some ⟨ga, 0, none⟩) p.length ka, .slice (some ⟨gc, 0, none⟩) c.length kc]) (by simp [results, Tryz.results33, go_sem, e0, e1]) rfl ⟨p1, ga, ka, gc, kc, ?_, GL, HFF.out.2, ?_⟩
        · simp
        · simpa using GF.mono (by omega)
end Go.Proofs.YtjnjgcibhjdmdaaGreatDoor

namespace Go.Proofs.YtjnjgcibhjdmdaaGreatDoor
open Go.RowKit

/-- A list and the value of its slice. -/
abbrev LV := List Int × Value
def lCells (p : List LV) : List Value := p.map fun x => x.2
def lVals (p : List LV) : List (List Int) := p.map fun x => x.1
theorem lCells_len (p : List LV) : (lCells p).length = p.length := List.length_map _
theorem lVals_len (p : List LV) : (lVals p).length = p.length := List.length_map _
theorem lCells_app (p q : List LV) : lCells (p ++ q) = lCells p ++ lCells q := List.map_append
theorem lVals_app (p q : List LV) : lVals (p ++ q) = lVals p ++ lVals q := List.map_append
def LOk (w : World) (p : List LV) : Prop := ∀ x ∈ p, IsInts w x.2 x.1
theorem LOk.keep {w w' : World} {p : List LV} (h : LOk w p) (hb : Below w.heap.size w w') : LOk w' p := fun x hx => (h x hx).keep hb
theorem LOk.nil (w : World) : LOk w [] := fun x hx => by cases hx
theorem ints_one {w : World} {v : Value} {l : List Int} (h : IsInts w v l) : v.oneCell' = true := by
  obtain ⟨A, c, rfl, _⟩ := h
  rfl
theorem lCells_one {w : World} {p : List LV} (h : LOk w p) : ∀ u ∈ lCells p, u.oneCell' = true := by
  intro u hu
  obtain ⟨x, hx, rfl⟩ := List.mem_map.1 hu
  exact ints_one (h x hx)
/-- A slice of slices reads as L. -/
def IsLists (w : World) (v : Value) (L : List (List Int)) : Prop :=
  ∃ A c p, v = .slice A p.length c ∧ lVals p = L ∧ Rd w A (lCells p) ∧ LOk w p ∧ p.length ≤ c ∧ c ≤ maxLen
theorem IsLists.keep {w w' : World} {v : Value} {L : List (List Int)} (h : IsLists w v L) (hb : Below w.heap.size w w') : IsLists w' v L := by
  obtain ⟨A, c, p, hv, hL, hr, ho, hc⟩ := h
  exact ⟨A, c, p, hv, hL, hr.keep hb, ho.keep hb, hc⟩
theorem IsLists.nil (w : World) : IsLists w (.slice none 0 0) [] := ⟨none, 0, [], rfl, rfl, Rd.nil _ _, LOk.nil _, Nat.le_refl _, by simp [maxLen]⟩
theorem lists_of_own {w : World} {base : Nat} {e : TypeId} {v : Value} {n : Nat} {p : List LV} (h : w.ownsRow base e 1 v n (lCells p)) (hp : LOk w p) : IsLists w v (lVals p) := by
  have hn : n = p.length := by have := h.1; rw [lCells_len] at this; omega
  subst hn
  rcases h.2 with ⟨rfl, hl⟩ | ⟨g, cap, cur, rfl, _, hh, hnc, hcm, hcs, ht⟩
  · have : p = [] := List.eq_nil_of_length_eq_zero hl
    subst this
    exact IsLists.nil _
  · exact ⟨_, _, p, rfl, rfl, fun j u hj => ⟨_, rfl, h.cells (g := g) rfl j u hj⟩, hp, hnc, hcm⟩
/-- The cell of a list that is not empty lies in memory. -/
theorem ints_lt {w : World} {v : Value} {l : List Int} (h : IsInts w v l) (hl : l ≠ []) {b : Nat} (hb : v.ownBlock = some b) : b < w.heap.size := by
  obtain ⟨A, c, rfl, hr, _⟩ := h
  have h0 : 0 < l.length := List.length_pos_iff.2 hl
  obtain ⟨ad, rfl, hc⟩ := hr.int h0
  have := cell_lt hc
  rw [block_of_add] at this
  simp only [Value.ownBlock] at hb
  injection hb with hb
  omega
theorem IsInts.but' {C : Nat → Prop} {w w' : World} {v : Value} {l : List Int} (h : IsInts w v l) (hb : But C w w') (hc : l ≠ [] → ∀ b, v.ownBlock = some b → ¬ C b) : IsInts w' v l := by
  by_cases hl : l = []
  · subst hl
    obtain ⟨A, c, rfl, hr, h1, h2⟩ := h
    exact ⟨A, c, rfl, Rd.nil _ _, h1, h2⟩
  · exact h.but hb (hc hl)

/-- A row of the call's own whose cells are slices; their lists lie elsewhere. -/
structure OwnL (base : Nat) (w : World) (v : Value) (p : List LV) : Prop where
  own : w.ownsRow base 30 1 v p.length (lCells p)
  ok : LOk w p
  far : ∀ x ∈ p, x.1 ≠ [] → ∀ b, x.2.ownBlock = some b → v.ownBlock ≠ some b
theorem OwnL.nil (base : Nat) (w : World) : OwnL base w (.slice none 0 0) [] := ⟨World.ownsRow_nil _ _ _ _, LOk.nil _, fun x hx => by cases hx⟩
theorem OwnL.lists {base : Nat} {w : World} {v : Value} {p : List LV} (h : OwnL base w v p) : IsLists w v (lVals p) := lists_of_own h.own h.ok
theorem OwnL.but {base : Nat} {C : Nat → Prop} {w w' : World} {v : Value} {p : List LV} (h : OwnL base w v p) (hb : But C w w') (hv : ∀ b, v.ownBlock = some b → ¬ C b) (hp : ∀ x ∈ p, x.1 ≠ [] → ∀ b, x.2.ownBlock = some b → ¬ C b) : OwnL base w' v p :=
  ⟨own_but h.own hb hv, fun x hx => (h.ok x hx).but' hb (hp x hx), h.far⟩
theorem OwnL.keep {base : Nat} {w w' : World} {v : Value} {p : List LV} (h : OwnL base w v p) (hb : Below w.heap.size w w') : OwnL base w' v p :=
  h.but (C := fun _ => False) (But.of_below hb) (fun _ _ => id) (fun _ _ _ _ _ => id)
theorem OwnL.slice {base : Nat} {w : World} {v : Value} {p : List LV} (h : OwnL base w v p) : ∃ A c, v = .slice A p.length c := ownsRow_slice h.own
theorem OwnL.drew {base : Nat} {w : World} {v : Value} {p : List LV} (h : OwnL base w v p) : OwnL base w.drew v p := h.keep ((Below.refl _ w).drew)
/-- One more. -/
theorem OwnL.step {base : Nat} {w w' : World} {v v' : Value} {p : List LV} (h : OwnL base w v p) {y : LV} (hg : w.grownBy w' v.ownBlock) (hown : w'.ownsRow base 30 1 v' (p.length + 1) (lCells p ++ [y.2]))
    (hat : v'.ownBlock = v.ownBlock ∨ v'.ownBlock = some w.heap.size) (hy : IsInts w y.2 y.1) (hf : y.1 ≠ [] → ∀ b, y.2.ownBlock = some b → v.ownBlock ≠ some b) : OwnL base w' v' (p ++ [y]) := by
  have hbut : But (fun b => v.ownBlock = some b) w w' := But.of_grown hg
  have hok : LOk w (p ++ [y]) := fun x hx => by
    rcases List.mem_append.1 hx with hx | hx
    · exact h.ok x hx
    · rw [List.mem_singleton.1 hx]; exact hy
  have hfar : ∀ x ∈ p ++ [y], x.1 ≠ [] → ∀ b, x.2.ownBlock = some b → v.ownBlock ≠ some b := fun x hx => by
    rcases List.mem_append.1 hx with hx | hx
    · exact h.far x hx
    · rw [List.mem_singleton.1 hx]; exact hf
  refine ⟨?_, fun x hx => (hok x hx).but' hbut (hfar x hx), fun x hx hl b hb => ?_⟩
  · rw [List.length_append, lCells_app]
    exact hown
  · rcases hat with h' | h'
    · rw [h']; exact hfar x hx hl b hb
    · rw [h']
      intro e
      injection e with e
      have := ints_lt (hok x hx) hl hb
      omega

theorem ints_info : (Tryz.prog.info? 30).map (fun i => (i.zero, i.size, i.bytes)) = some (some (.slice none 0 0), 1, 24) := by kernel_rfl
/-- append(row, l): one slice onto a row of the call's own. -/
theorem wpList_appL {ops : Array Oper} {rest : List Oper} {o : Oper} {a : Act} {Q : Exit → Act → World → Prop} (w : World) (hgd : o.guard = none) (s x : Operand)
    (ho : o.op = .call { callee := .builtin .append, args := #[s, x], argTypes := #[72, 72] })
    (base : Nat) (v : Value) (p : List LV) (hs : a.eval s = v) (hown : OwnL base w v p)
    (g c : Nat) (y : LV) (hx : a.eval x = .slice (some ⟨g, 0, none⟩) 1 c) (hc : w.cell? ⟨g, 0, none⟩ = some y.2) (hy : IsInts w y.2 y.1) (hf : y.1 ≠ [] → ∀ b, y.2.ownBlock = some b → v.ownBlock ≠ some b) (hn : p.length < 1000000) (hbase : base ≤ w.heap.size)
    (h : ∀ v' w', OwnL base w' v' (p ++ [y]) → w.grownBy w' v.ownBlock → (v'.ownBlock = v.ownBlock ∨ v'.ownBlock = some w.heap.size) → wpList Tryz.prog ops Q rest (a.put o.dst v') w') : wpList Tryz.prog ops Q (o :: rest) a w := by
  obtain ⟨i0, hi, hz0, hz1, hz2⟩ := info_parts ints_info
  refine wpList_append_own_at w hgd s x _ ho base _ i0 _ 1 24 Tryz.underlying72 hi hz0 hz1 hz2 rfl (by decide) v p.length (lCells p) hs hown.own ⟨g, 0, none⟩ 1 c [y.2] hx rfl ?_ ?_ (by unfold maxLen; omega) (by omega) hbase (fun v' w' h1 h2 _ h4 => h v' w' (hown.step h2 h1 h4 hy hf) h2 h4)
  · intro j u hj
    match j, hj with
    | 0, hj => simp at hj; subst hj; simpa [Addr.add] using hc
  · intro u hu; simp at hu; subst hu; exact ints_one hy
/-- append(row, l...): slices onto a row of the call's own. -/
theorem wpList_appLs {ops : Array Oper} {rest : List Oper} {o : Oper} {a : Act} {Q : Exit → Act → World → Prop} (w : World) (hgd : o.guard = none) (s x : Operand)
    (ho : o.op = .call { callee := .builtin .append, args := #[s, x], argTypes := #[72, 72] })
    (base : Nat) (v : Value) (n : Nat) (xs : List Value) (hs : a.eval s = v) (hown : w.ownsRow base 30 1 v n xs)
    (ad : Addr) (c : Nat) (p : List LV) (hx : a.eval x = .slice (some ad) p.length c) (hr : Rd w (some ad) (lCells p)) (hp : LOk w p) (hn : n + p.length ≤ 1000000) (hbase : base ≤ w.heap.size)
    (h : ∀ v' w', w'.ownsRow base 30 1 v' (n + p.length) (xs ++ lCells p) → w.grownBy w' v.ownBlock → (v'.ownBlock = v.ownBlock ∨ v'.ownBlock = some w.heap.size) → wpList Tryz.prog ops Q rest (a.put o.dst v') w') : wpList Tryz.prog ops Q (o :: rest) a w := by
  obtain ⟨i0, hi, hz0, hz1, hz2⟩ := info_parts ints_info
  refine wpList_append_own_at w hgd s x _ ho base _ i0 _ 1 24 Tryz.underlying72 hi hz0 hz1 hz2 rfl (by decide) v n xs hs hown ad p.length c (lCells p) hx (by rw [lCells_len]; omega) ?_ (lCells_one hp) (by unfold maxLen; omega) (by omega) hbase (fun v' w' h1 h2 _ h4 => h v' w' h1 h2 h4)
  intro j u hj
  obtain ⟨ad', e, hc⟩ := hr j u hj
  cases e
  exact hc
end Go.Proofs.YtjnjgcibhjdmdaaGreatDoor

namespace Go.Proofs.YtjnjgcibhjdmdaaGreatDoor
open Go.RowKit

/-- What a function value answers at x, in every world in which what lies in w lies unturned. -/
def FnGives (g : Nat) (lb : Array Value) (w : World) (x : Value) (b : Bool) : Prop := ∀ W, Below w.heap.size w W → Calls Tryz.prog g (#[x] ++ lb) W (Keeps (.bool b) W)
theorem FnGives.keep {g : Nat} {lb : Array Value} {w w' : World} {x : Value} {b : Bool} (h : FnGives g lb w x b) (hb : Below w.heap.size w w') : FnGives g lb w' x b := fun W hW => h W (Below.next hb hW)
def Finds (b : Bool) (w : World) (e : Ending) (w' : World) : Prop := ∃ k : Int, e = .returned (.int .i64 k) ∧ decide (0 ≤ k) = b ∧ Below w.heap.size w w'
theorem any_drop {α : Type} (p : α → Bool) (l : List α) (k : Nat) (x : α) (h : l[k]? = some x) : (l.drop k).any p = (p x || (l.drop (k + 1)).any p) := by
  obtain ⟨hk, rfl⟩ := List.getElem?_eq_some_iff.1 h
  rw [List.drop_eq_getElem_cons hk, List.any_cons]

set_option maxHeartbeats 1000000 in
theorem indexFunc_ints (g : Nat) (lb : Array Value) (eg : ∀ args w, (callFunc g args).run Tryz.prog w = .ok (.enter g args) w) (A : Option Addr) (c : Nat) (l : List Int) (p : Int → Bool) (w : World) (hr : Rd w A (l.map (Value.int .i64)))
    (hf : ∀ x ∈ l, FnGives g lb w (.int .i64 x) (p x)) (hlen : l.length ≤ maxLen) :
    Calls Tryz.prog 104 #[.slice A l.length c, .func (.func g) #[] lb] w (Finds (l.any p) w) := by
  have hn1 : l.length ≤ 9223372036854775807 := by unfold maxLen at hlen; omega
  clear hlen
  have HF := Lib.hid hf
  have HR := Lib.hid hr
  have HB := Lib.hid (show l.any p = (l.drop 0).any p by rw [List.drop_zero])
  generalize l.any p = B at HB ⊢
  clear hf hr
  go_enter Tryz.func104, Tryz.ntmps104
  go_wp2
  go_loopw [5, 8] (fun _ i wr => ∃ k : Nat, k ≤ l.length ∧ i = .int .i64 k ∧ B = (l.drop k).any p ∧ Below w.heap.size w wr) (fun _ i _ => l.length - (intOf i).toNat)
  case atStart => exact ⟨0, Nat.zero_le _, rfl, HB.out, Below.refl _ _⟩
  case round =>
    obtain ⟨k, hk, rfl, hB, hbel⟩ := hrel
    obtain ⟨wo, rfl⟩ : ∃ wo : World, wo = wr := ⟨_, rfl⟩
    by_cases hlt : k < l.length
    · obtain ⟨x, hx⟩ : ∃ x, l[k]? = some x := ⟨l[k], List.getElem?_eq_getElem hlt⟩
      obtain ⟨ad, rfl, hc0⟩ := HR.out k (.int .i64 x) (by rw [List.getElem?_map, hx]; rfl)
      have hc := cell_keep hbel hc0
      have hcall := HF.out x (List.mem_of_getElem? hx) wo hbel
      have hk1 : (k : Int) < (l.length : Int) := by omega
      have hk0 : (0 : Int) ≤ (k : Int) := by omega
      rw [any_drop p l k x hx] at hB
      clear hc0 hx
      have HC := Lib.hid hcall
      clear hcall
      cases hp : p x with
      | true =>
        have HB := Lib.hid (show B = true by rw [hB, hp]; rfl)
        have HC := Lib.hid (by have := HC.out; rw [hp] at this; exact this)
        clear hB hp
        go_wp2_with (go_at_fn g; refine (HC.out).mono ?_; rintro e w1 ⟨rfl, hb1⟩)
        go_ret
        exact ⟨k, rfl, by rw [HB.out]; simp, Below.next hbel hb1⟩
      | false =>
        have HB := Lib.hid (show B = (l.drop (k + 1)).any p by rw [hB, hp]; rfl)
        have HC := Lib.hid (by have := HC.out; rw [hp] at this; exact this)
        clear hB hp
        go_wp2_with (go_at_fn g; refine (HC.out).mono ?_; rintro e w1 ⟨rfl, hb1⟩)
        go_roundw
        case rel => exact ⟨k + 1, by omega, by go_num, HB.out, Below.next hbel hb1⟩
        case measure => simp [intOf]; omega
    · have hk' : k = l.length := by omega
      subst hk'
      have HB := Lib.hid (show B = false by rw [hB, List.drop_length]; rfl)
      clear hB
      go_wp2
      go_ret
      exact ⟨-1, rfl, by rw [HB.out]; rfl, hbel⟩

set_option maxHeartbeats 1000000 in
theorem containsFunc_ints (g : Nat) (lb : Array Value) (eg : ∀ args w, (callFunc g args).run Tryz.prog w = .ok (.enter g args) w) (A : Option Addr) (c : Nat) (l : List Int) (p : Int → Bool) (w : World) (hr : Rd w A (l.map (Value.int .i64)))
    (hf : ∀ x ∈ l, FnGives g lb w (.int .i64 x) (p x)) (hlen : l.length ≤ maxLen) :
    Calls Tryz.prog 76 #[.slice A l.length c, .func (.func g) #[] lb] w (Keeps (.bool (l.any p)) w) := by
  have HC := Lib.hid (indexFunc_ints g lb eg A c l p w hr hf hlen)
  clear hr hf
  generalize l.any p = B at HC ⊢
  go_enter Tryz.func76, Tryz.ntmps76
  go_wp2_with (go_at_call 104; refine (HC.out).mono ?_; rintro e w1 ⟨k, rfl, hk, hb1⟩)
  go_ret
  exact ⟨by rw [← hk]; rfl, hb1⟩

set_option maxHeartbeats 1000000 in
theorem indexFunc_lists (g : Nat) (lb : Array Value) (eg : ∀ args w, (callFunc g args).run Tryz.prog w = .ok (.enter g args) w) (A : Option Addr) (c : Nat) (l : List LV) (p : List Int → Bool) (w : World) (hr : Rd w A (lCells l))
    (hf : ∀ x ∈ l, FnGives g lb w x.2 (p x.1)) (hlen : l.length ≤ maxLen) :
    Calls Tryz.prog 162 #[.slice A l.length c, .func (.func g) #[] lb] w (Finds (l.any fun x => p x.1) w) := by
  have hn1 : l.length ≤ 9223372036854775807 := by unfold maxLen at hlen; omega
  clear hlen
  have HF := Lib.hid hf
  have HR := Lib.hid hr
  have HB := Lib.hid (show (l.any fun x => p x.1) = ((l.drop 0).any fun x => p x.1) by rw [List.drop_zero])
  generalize (l.any fun x => p x.1) = B at HB ⊢
  clear hf hr
  go_enter Tryz.func162, Tryz.ntmps162
  go_wp2
  go_loopw [5, 8] (fun _ i wr => ∃ k : Nat, k ≤ l.length ∧ i = .int .i64 k ∧ (B = ((l.drop k).any fun x => p x.1)) ∧ Below w.heap.size w wr) (fun _ i _ => l.length - (intOf i).toNat)
  case atStart => exact ⟨0, Nat.zero_le _, rfl, HB.out, Below.refl _ _⟩
  case round =>
    obtain ⟨k, hk, rfl, hB, hbel⟩ := hrel
    obtain ⟨wo, rfl⟩ : ∃ wo : World, wo = wr := ⟨_, rfl⟩
    by_cases hlt : k < l.length
    · obtain ⟨⟨x, sv⟩, hx⟩ : ∃ x, l[k]? = some x := ⟨l[k], List.getElem?_eq_getElem hlt⟩
      obtain ⟨ad, rfl, hc0⟩ := HR.out k sv (by unfold lCells; rw [List.getElem?_map, hx]; rfl)
      have hc := cell_keep hbel hc0
      have hcall := HF.out _ (List.mem_of_getElem? hx) wo hbel
      have hk1 : (k : Int) < (l.length : Int) := by omega
      have hk0 : (0 : Int) ≤ (k : Int) := by omega
      rw [any_drop _ l k _ hx] at hB
      simp only at hB hcall
      clear hc0 hx
      have HC := Lib.hid hcall
      clear hcall
      cases hp : p x with
      | true =>
        have HB := Lib.hid (show B = true by rw [hB, hp]; rfl)
        have HC := Lib.hid (by have := HC.out; rw [hp] at this; exact this)
        clear hB hp
        go_wp2_with (go_at_fn g; refine (HC.out).mono ?_; rintro e w1 ⟨rfl, hb1⟩)
        go_ret
        exact ⟨k, rfl, by rw [HB.out]; simp, Below.next hbel hb1⟩
      | false =>
        have HB := Lib.hid (show B = ((l.drop (k + 1)).any fun x => p x.1) by rw [hB, hp]; rfl)
        have HC := Lib.hid (by have := HC.out; rw [hp] at this; exact this)
        clear hB hp
        go_wp2_with (go_at_fn g; refine (HC.out).mono ?_; rintro e w1 ⟨rfl, hb1⟩)
        go_roundw
        case rel => exact ⟨k + 1, by omega, by go_num, HB.out, Below.next hbel hb1⟩
        case measure => simp [intOf]; omega
    · have hk' : k = l.length := by omega
      subst hk'
      have HB := Lib.hid (show B = false by rw [hB, List.drop_length]; rfl)
      clear hB
      go_wp2
      go_ret
      exact ⟨-1, rfl, by rw [HB.out]; rfl, hbel⟩

set_option maxHeartbeats 1000000 in
theorem containsFunc_lists (g : Nat) (lb : Array Value) (eg : ∀ args w, (callFunc g args).run Tryz.prog w = .ok (.enter g args) w) (A : Option Addr) (c : Nat) (l : List LV) (p : List Int → Bool) (w : World) (hr : Rd w A (lCells l))
    (hf : ∀ x ∈ l, FnGives g lb w x.2 (p x.1)) (hlen : l.length ≤ maxLen) :
    Calls Tryz.prog 152 #[.slice A l.length c, .func (.func g) #[] lb] w (Keeps (.bool (l.any fun x => p x.1)) w) := by
  have HC := Lib.hid (indexFunc_lists g lb eg A c l p w hr hf hlen)
  clear hr hf
  generalize (l.any fun x => p x.1) = B at HC ⊢
  go_enter Tryz.func152, Tryz.ntmps152
  go_wp2_with (go_at_call 162; refine (HC.out).mono ?_; rintro e w1 ⟨k, rfl, hk, hb1⟩)
  go_ret
  exact ⟨by rw [← hk]; rfl, hb1⟩

theorem eq_drop {l m : List Int} {k : Nat} (h : k < l.length) (h' : k < m.length) : (l.drop k == m.drop k) = (l[k] == m[k] && (l.drop (k + 1) == m.drop (k + 1))) := by
  rw [List.drop_eq_getElem_cons h, List.drop_eq_getElem_cons h']
  rfl
set_option maxHeartbeats 2000000 in
theorem slices_Equal (sa sb : Value) (l m : List Int) (w : World) (ha : IsInts w sa l) (hb : IsInts w sb m) : Calls Tryz.prog 154 #[sa, sb] w (Keeps (.bool (l == m)) w) := by
  obtain ⟨A, c, rfl, hr, h1, h2⟩ := ha
  obtain ⟨D, d, rfl, hs, g1, g2⟩ := hb
  have hn1 : l.length ≤ 9223372036854775807 := by unfold maxLen at h2; omega
  have hn2 : m.length ≤ 9223372036854775807 := by unfold maxLen at g2; omega
  by_cases hlen : l.length = m.length
  · have HB := Lib.hid (show (l == m) = (l.drop 0 == m.drop 0) by rw [List.drop_zero, List.drop_zero])
    have HL := Lib.hid hlen
    have HR := Lib.hid hr
    have HS := Lib.hid hs
    generalize (l == m) = B at HB ⊢
    obtain ⟨n, hn⟩ : ∃ n, n = l.length := ⟨_, rfl⟩
    have hmn : m.length = n := by omega
    rw [← hn] at hn1
    rw [← hn, hmn]
    have HN := Lib.hid hn
    have HM := Lib.hid hmn
    clear hlen hn hmn hr hs h1 h2 g1 g2 hn2
    go_enter Tryz.func154, Tryz.ntmps154
    go_wp2
    go_loopw [5, 13] (fun _ i wr => ∃ (k q : Nat), k ≤ n ∧ i = .int .i64 k ∧ (B = (l.drop k == m.drop k)) ∧ wr = w.drewN q) (fun _ i _ => n - (intOf i).toNat)
    case atStart => exact ⟨0, 0, Nat.zero_le _, rfl, HB.out, rfl⟩
    case round =>
      obtain ⟨k, q, hk, rfl, hB, rfl⟩ := hrel
      by_cases hlt : k < n
      · have hl : k < l.length := by have := HN.out; omega
        have hm : k < m.length := by have := HM.out; omega
        obtain ⟨ad, rfl, c1⟩ := HR.out.int hl
        obtain ⟨bd, rfl, c2⟩ := HS.out.int hm
        rw [eq_drop hl hm] at hB
        have hk1 : (k : Int) < (n : Int) := by omega
        have hk0 : (0 : Int) ≤ (k : Int) := by omega
        generalize l[k] = x at c1 hB
        generalize m[k] = y at c2 hB
        by_cases hxy : x = y
        · subst hxy
          have HB := Lib.hid (show B = (l.drop (k + 1) == m.drop (k + 1)) by rw [hB]; simp)
          clear hB hl hm
          go_wp2_with fail
          go_region
          go_wp2
          go_roundw
          case rel => exact ⟨k + 1, q + 1, by omega, by go_num, HB.out, rfl⟩
          case measure => simp [intOf]; omega
        · have HB := Lib.hid (show B = false by rw [hB, beq_eq_false_iff_ne.2 hxy]; rfl)
          clear hB hl hm
          go_wp2_with fail
          go_region
          go_wp2
          go_ret
          exact ⟨by rw [HB.out]; rfl, below_drewN (Below.refl _ _) _⟩
      · have hk' : k = n := by omega
        subst hk'
        have HB := Lib.hid (show B = true by rw [hB, List.drop_eq_nil_of_le (by have := HN.out; omega), List.drop_eq_nil_of_le (by have := HM.out; omega)]; rfl)
        clear hB
        go_wp2
        go_ret
        exact ⟨by rw [HB.out]; rfl, below_drewN (Below.refl _ _) _⟩
  · have HB := Lib.hid (show (l == m) = false by rw [beq_eq_false_iff_ne]; intro e; exact hlen (by rw [e]))
    generalize (l == m) = B at HB ⊢
    have hne : (l.length : Int) ≠ (m.length : Int) := by omega
    clear hr hs h1 h2 g1 g2
    go_enter Tryz.func154, Tryz.ntmps154
    go_wp2
    go_ret
    exact ⟨by rw [HB.out]; rfl, by (repeat' (first | (with_reducible exact Below.refl _ _) | (with_reducible assumption) | (with_reducible refine Below.next ?_ (by with_reducible assumption)) | (with_reducible refine Below.drew ?_) | (with_reducible refine Below.laid ?_ _) | (with_reducible refine Below.setCell ?_ ?_ _) | (with_reducible refine size_of ?_) | (with_reducible refine Nat.le_succ_of_le ?_) | go_size))⟩
end Go.Proofs.YtjnjgcibhjdmdaaGreatDoor

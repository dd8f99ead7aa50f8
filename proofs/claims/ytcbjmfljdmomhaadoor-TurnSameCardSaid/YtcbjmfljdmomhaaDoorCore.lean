/-
  WORDS FOR LISTS OF FORMULAS IN MEMORY, and the walks of core.Check, core.So.
-/
import Derived.Test.YtcbjmfljdmomhaaDoorFitAll
import Derived.Test.YtcbjmfljdmomhaaDoorFormTrue
import Derived.Test.YtcbjmfljdmomhaaDoorVennP2
import Derived.Test.YtcbjmfljdmomhaaDoorSpan
namespace Go.Proofs.YtcbjmfljdmomhaaDoor
open Go.RowKit Go.Shelf

/-- A slice of formulas reads as l. -/
def IsForms (w : World) (v : Value) (l : List Venn.Form) : Prop :=
  ∃ A c, v = .slice A l.length c ∧ (∀ (k : Nat) (f : Venn.Form), l[k]? = some f → ∃ ad sa sc, A = some ad ∧ w.cell? (ad.add (k * 2)) = some sa ∧ w.cell? ⟨(ad.add (k * 2)).block, (ad.add (k * 2)).off + 1, none⟩ = some sc ∧
    IsAtoms w sa f.atoms ∧ IsInts w sc f.code) ∧ l.length ≤ c ∧ c ≤ maxLen
theorem IsForms.keep {w w' : World} {v : Value} {l : List Venn.Form} (h : IsForms w v l) (hb : Below w.heap.size w w') : IsForms w' v l := by
  obtain ⟨A, c, hv, hr, hc⟩ := h
  refine ⟨A, c, hv, fun k a ha => ?_, hc⟩
  obtain ⟨ad, sa, sc, e, h0, h1, hs, ht⟩ := hr k a ha
  exact ⟨ad, sa, sc, e, cell_keep hb h0, cell_keep hb h1, hs.keep hb, ht.keep hb⟩
theorem IsForms.nil (w : World) : IsForms w (.slice none 0 0) [] := ⟨none, 0, rfl, fun k a h => by simp at h, Nat.le_refl _, by simp⟩
theorem IsForms.one {w : World} {g : Nat} {t : TypeId} {f : Venn.Form} {sa sc : Value} (h : Blk w g t #[sa, sc]) (ha : IsAtoms w sa f.atoms) (hc : IsInts w sc f.code) : IsForms w (.slice (some ⟨g, 0, none⟩) 1 1) [f] := by
  refine ⟨_, _, rfl, fun k x hx => ?_, Nat.le_refl _, by simp [maxLen]⟩
  match k, hx with
  | 0, hx =>
    simp at hx
    subst hx
    exact ⟨_, sa, sc, rfl, h.cell 0, h.cell 1, ha, hc⟩
theorem IsAtoms.slice {w : World} {v : Value} {l : List Venn.Atom} (h : IsAtoms w v l) : ∃ A c, v = .slice A l.length c := let ⟨A, c, e, _⟩ := h; ⟨A, c, e⟩
theorem IsInts.slice {w : World} {v : Value} {l : List Int} (h : IsInts w v l) : ∃ A c, v = .slice A l.length c := let ⟨A, c, e, _⟩ := h; ⟨A, c, e⟩

set_option maxHeartbeats 2000000 in
set_option maxRecDepth 100000 in
theorem core_Check (v : Value) (l : List Venn.Form) (u : Int) (w : World) (hl : IsForms w v l) (hk : KindsOk w) : Calls Tryd.prog 30 #[v, .int .i64 u] w (Keeps (errV (Venn.coreChk l u)) w) := by
  obtain ⟨A, cA, rfl, hra, hla, hlb⟩ := hl
  have hlb' := hlb
  unfold maxLen at hlb'
  obtain ⟨E, hE⟩ : ∃ E, E = errV (Venn.coreChk l u) := ⟨_, rfl⟩
  rw [← hE]
  have HE := Lib.hid hE
  have HK := Lib.hid hk
  have HRA := Lib.hid hra
  clear hE hk hra
  by_cases h1 : l.length = 0
  · have HV := Lib.hid (show E = .iface 70 (.int .i64 5) by rw [HE.out, Venn.coreChk, if_pos h1]; rfl)
    have e1 : ((l.length : Int) == 0) = true := beq_iff_eq.2 (by omega)
    clear h1
    go_enter Tryd.func30, Tryd.ntmps30
    go_wp2
    go_ret
    exact ⟨congrArg Ending.returned HV.out.symm, by (repeat' (first | (with_reducible exact Below.refl _ _) | (with_reducible assumption) | (with_reducible refine Below.next ?_ (by with_reducible assumption)) | (with_reducible refine Below.drew ?_) | (with_reducible refine Below.laid ?_ _) | (with_reducible refine Below.setCell ?_ ?_ _) | (with_reducible refine size_of ?_) | (with_reducible refine Nat.le_succ_of_le ?_) | go_size))⟩
  have e1 : ((l.length : Int) == 0) = false := beq_eq_false_iff_ne.2 (by omega)
  by_cases h2 : 6 < l.length
  · have HV := Lib.hid (show E = .iface 70 (.int .i64 4) by rw [HE.out, Venn.coreChk, if_neg h1, if_pos h2]; rfl)
    have h2' : (6 : Int) < (l.length : Int) := by omega
    clear h1 h2
    go_enter Tryd.func30, Tryd.ntmps30
    go_wp2
    go_ret
    exact ⟨congrArg Ending.returned HV.out.symm, by (repeat' (first | (with_reducible exact Below.refl _ _) | (with_reducible assumption) | (with_reducible refine Below.next ?_ (by with_reducible assumption)) | (with_reducible refine Below.drew ?_) | (with_reducible refine Below.laid ?_ _) | (with_reducible refine Below.setCell ?_ ?_ _) | (with_reducible refine size_of ?_) | (with_reducible refine Nat.le_succ_of_le ?_) | go_size))⟩
  have h2' : ¬ (6 : Int) < (l.length : Int) := by omega
  have HG := Lib.hid (show E = errV (if Venn.formsChk l = 0 then (if Venn.things u = true then 0 else 1) else Venn.formsChk l) by rw [HE.out, Venn.coreChk, if_neg h1, if_neg h2])
  clear h1 h2
  go_enter Tryd.func30, Tryd.ntmps30
  go_wp2
  go_loopw [20] (fun i wr => ∃ k : Nat, k ≤ l.length ∧ i = .int .i64 k ∧ Below w.heap.size w wr ∧ E = errV (if Venn.formsChk (l.drop k) = 0 then (if Venn.things u = true then 0 else 1) else Venn.formsChk (l.drop k)))
    (fun i _ => l.length - (intOf i).toNat)
  case atStart => exact ⟨0, Nat.zero_le _, rfl, by (repeat' (first | (with_reducible exact Below.refl _ _) | (with_reducible assumption) | (with_reducible refine Below.next ?_ (by with_reducible assumption)) | (with_reducible refine Below.drew ?_) | (with_reducible refine Below.laid ?_ _) | (with_reducible refine Below.setCell ?_ ?_ _) | (with_reducible refine size_of ?_) | (with_reducible refine Nat.le_succ_of_le ?_) | go_size)), by rw [List.drop_zero]; exact HG.out⟩
  case round =>
    obtain ⟨k, hk, rfl, hb, hrest⟩ := hrel
    obtain ⟨wo, rfl⟩ : ∃ wo : World, wo = wr := ⟨_, rfl⟩
    have HR := Lib.hid hrest
    clear hrest
    by_cases hlt : k < l.length
    · obtain ⟨ad, sa, sc, rfl, g0, g1, hs, ht⟩ := HRA.out k _ (List.getElem?_eq_getElem hlt)
      have HD := Lib.hid (List.drop_eq_getElem_cons hlt)
      generalize l[k] = at_ at g0 g1 hs ht HD
      obtain ⟨fl, fc⟩ := at_
      simp only at g0 g1 hs ht
      have d0 := cell_keep hb g0
      have d1 := cell_keep hb g1
      obtain ⟨sA, sN, rfl⟩ := hs.slice
      obtain ⟨tA, tN, rfl⟩ := ht.slice
      have HSS := Lib.hid hs
      have HTT := Lib.hid ht
      clear g0 g1 hs ht
      have hk1 : (k : Int) < (l.length : Int) := by omega
      have hk0 : (0 : Int) ≤ (k : Int) := by omega
      by_cases hz : Venn.formChk ⟨fl, fc⟩ = 0
      · have HZ := Lib.hid (errV_zero hz)
        have HV := Lib.hid (show E = errV (if Venn.formsChk (l.drop (k + 1)) = 0 then (if Venn.things u = true then 0 else 1) else Venn.formsChk (l.drop (k + 1))) by rw [HR.out, HD.out, Venn.formsChk, if_pos hz])
        clear hz
        go_wp2_with (go_at_call 14; refine (form_Check _ _ fl fc _ (HSS.out.keep (by (repeat' (first | (with_reducible exact Below.refl _ _) | (with_reducible assumption) | (with_reducible refine Below.next ?_ (by with_reducible assumption)) | (with_reducible refine Below.drew ?_) | (with_reducible refine Below.laid ?_ _) | (with_reducible refine Below.setCell ?_ ?_ _) | (with_reducible refine size_of ?_) | (with_reducible refine Nat.le_succ_of_le ?_) | go_size)))) (HTT.out.keep (by (repeat' (first | (with_reducible exact Below.refl _ _) | (with_reducible assumption) | (with_reducible refine Below.next ?_ (by with_reducible assumption)) | (with_reducible refine Below.drew ?_) | (with_reducible refine Below.laid ?_ _) | (with_reducible refine Below.setCell ?_ ?_ _) | (with_reducible refine size_of ?_) | (with_reducible refine Nat.le_succ_of_le ?_) | go_size)))) (HK.out.keep (by (repeat' (first | (with_reducible exact Below.refl _ _) | (with_reducible assumption) | (with_reducible refine Below.next ?_ (by with_reducible assumption)) | (with_reducible refine Below.drew ?_) | (with_reducible refine Below.laid ?_ _) | (with_reducible refine Below.setCell ?_ ?_ _) | (with_reducible refine size_of ?_) | (with_reducible refine Nat.le_succ_of_le ?_) | go_size))))).mono ?_; rintro e w1 ⟨rfl, hb1⟩; rw [HZ.out])
        go_roundw
        case rel => exact ⟨k + 1, by omega, by go_num, by (repeat' (first | (with_reducible exact Below.refl _ _) | (with_reducible assumption) | (with_reducible refine Below.next ?_ (by with_reducible assumption)) | (with_reducible refine Below.drew ?_) | (with_reducible refine Below.laid ?_ _) | (with_reducible refine Below.setCell ?_ ?_ _) | (with_reducible refine size_of ?_) | (with_reducible refine Nat.le_succ_of_le ?_) | go_size)), HV.out⟩
        case measure => simp [intOf]; omega
      · have HZ := Lib.hid (errV_ne hz)
        have HV := Lib.hid (show E = .iface 70 (.int .i64 (Venn.formChk ⟨fl, fc⟩)) by rw [HR.out, HD.out, Venn.formsChk, if_neg hz, if_neg hz, errV_ne hz])
        clear hz
        go_wp2_with (go_at_call 14; refine (form_Check _ _ fl fc _ (HSS.out.keep (by (repeat' (first | (with_reducible exact Below.refl _ _) | (with_reducible assumption) | (with_reducible refine Below.next ?_ (by with_reducible assumption)) | (with_reducible refine Below.drew ?_) | (with_reducible refine Below.laid ?_ _) | (with_reducible refine Below.setCell ?_ ?_ _) | (with_reducible refine size_of ?_) | (with_reducible refine Nat.le_succ_of_le ?_) | go_size)))) (HTT.out.keep (by (repeat' (first | (with_reducible exact Below.refl _ _) | (with_reducible assumption) | (with_reducible refine Below.next ?_ (by with_reducible assumption)) | (with_reducible refine Below.drew ?_) | (with_reducible refine Below.laid ?_ _) | (with_reducible refine Below.setCell ?_ ?_ _) | (with_reducible refine size_of ?_) | (with_reducible refine Nat.le_succ_of_le ?_) | go_size)))) (HK.out.keep (by (repeat' (first | (with_reducible exact Below.refl _ _) | (with_reducible assumption) | (with_reducible refine Below.next ?_ (by with_reducible assumption)) | (with_reducible refine Below.drew ?_) | (with_reducible refine Below.laid ?_ _) | (with_reducible refine Below.setCell ?_ ?_ _) | (with_reducible refine size_of ?_) | (with_reducible refine Nat.le_succ_of_le ?_) | go_size))))).mono ?_; rintro e w1 ⟨rfl, hb1⟩; rw [HZ.out])
        go_ret
        exact ⟨congrArg Ending.returned HV.out.symm, by (repeat' (first | (with_reducible exact Below.refl _ _) | (with_reducible assumption) | (with_reducible refine Below.next ?_ (by with_reducible assumption)) | (with_reducible refine Below.drew ?_) | (with_reducible refine Below.laid ?_ _) | (with_reducible refine Below.setCell ?_ ?_ _) | (with_reducible refine size_of ?_) | (with_reducible refine Nat.le_succ_of_le ?_) | go_size))⟩
    · have hd : l.drop k = [] := List.drop_eq_nil_of_le (by omega)
      cases hu : Venn.things u
      · have HV := Lib.hid (show E = .iface 70 (.int .i64 1) by rw [HR.out, hd, hu]; rfl)
        have HU := Lib.hid hu
        clear hd hu
        go_wp2_with (go_at_call 47; refine (sets_Things _ _).mono ?_; rintro e w' ⟨rfl, rfl⟩; rw [HU.out])
        go_ret
        exact ⟨congrArg Ending.returned HV.out.symm, hb⟩
      · have HV := Lib.hid (show E = .nilIface by rw [HR.out, hd, hu]; rfl)
        have HU := Lib.hid hu
        clear hd hu
        go_wp2_with (go_at_call 47; refine (sets_Things _ _).mono ?_; rintro e w' ⟨rfl, rfl⟩; rw [HU.out])
        go_ret
        exact ⟨congrArg Ending.returned HV.out.symm, hb⟩

set_option maxHeartbeats 1000000 in
/-- core.So's closure: a formula does not hold in the world that it has. -/
theorem core_So1 (sa sc : Value) (l : List Venn.Atom) (c : List Int) (g : Nat) (th a b d : Int) (w : World) (ha : IsAtoms w sa l) (hc : IsInts w sc c) (hk : KindsOk w) (hB : Blk w g 25 #[.int .i64 th, .int .i64 a, .int .i64 b, .int .i64 d])
    (hok : Venn.formChk ⟨l, c⟩ = 0) (hw : Venn.worldChk ⟨th, a, b, d⟩ = 0) :
    Calls Tryd.prog 76 #[.agg #[sa, sc], .pointer (some ⟨g, 0, none⟩)] w (Keeps (.bool (!Venn.formTrue ⟨l, c⟩ ⟨th, a, b, d⟩)) w) := by
  obtain ⟨sA, sN, rfl⟩ := ha.slice
  obtain ⟨tA, tN, rfl⟩ := hc.slice
  obtain ⟨c0, c1, c2, c3⟩ := hB.cells4
  have hl := hB.lt
  have HA := Lib.hid ha
  have HC := Lib.hid hc
  have HK := Lib.hid hk
  have HF := Lib.hid hok
  have HW := Lib.hid hw
  clear ha hc hk hok hw
  go_enter Tryd.func76, Tryd.ntmps76
  go_wp2_with (go_at_call 35; refine (form_True _ _ l c _ _ _ _ _ (HA.out.keep (by (repeat' (first | (with_reducible exact Below.refl _ _) | (with_reducible assumption) | (with_reducible refine Below.next ?_ (by with_reducible assumption)) | (with_reducible refine Below.drew ?_) | (with_reducible refine Below.laid ?_ _) | (with_reducible refine Below.setCell ?_ ?_ _) | (with_reducible refine size_of ?_) | (with_reducible refine Nat.le_succ_of_le ?_) | go_size)))) (HC.out.keep (by (repeat' (first | (with_reducible exact Below.refl _ _) | (with_reducible assumption) | (with_reducible refine Below.next ?_ (by with_reducible assumption)) | (with_reducible refine Below.drew ?_) | (with_reducible refine Below.laid ?_ _) | (with_reducible refine Below.setCell ?_ ?_ _) | (with_reducible refine size_of ?_) | (with_reducible refine Nat.le_succ_of_le ?_) | go_size)))) (HK.out.keep (by (repeat' (first | (with_reducible exact Below.refl _ _) | (with_reducible assumption) | (with_reducible refine Below.next ?_ (by with_reducible assumption)) | (with_reducible refine Below.drew ?_) | (with_reducible refine Below.laid ?_ _) | (with_reducible refine Below.setCell ?_ ?_ _) | (with_reducible refine size_of ?_) | (with_reducible refine Nat.le_succ_of_le ?_) | go_size)))) HF.out HW.out).mono ?_; rintro e w1 ⟨rfl, hb1⟩)
  go_ret
  exact ⟨rfl, by (repeat' (first | (with_reducible exact Below.refl _ _) | (with_reducible assumption) | (with_reducible refine Below.next ?_ (by with_reducible assumption)) | (with_reducible refine Below.drew ?_) | (with_reducible refine Below.laid ?_ _) | (with_reducible refine Below.setCell ?_ ?_ _) | (with_reducible refine size_of ?_) | (with_reducible refine Nat.le_succ_of_le ?_) | go_size))⟩

/-- The first that does not hold. -/
def idxF (W : Venn.World) : List Venn.Form → Nat → Int
  | [], _ => -1
  | f :: r, k => if Venn.formTrue f W = true then idxF W r (k + 1) else k
theorem idxF_nonneg (W : Venn.World) : ∀ (l : List Venn.Form) (k : Nat), decide (0 ≤ idxF W l k) = !Venn.formsTrue l W := by
  intro l
  induction l with
  | nil => intro k; simp [idxF, Venn.formsTrue]
  | cons f l ih =>
    intro k
    unfold idxF
    have e : Venn.formsTrue (f :: l) W = (Venn.formTrue f W && Venn.formsTrue l W) := rfl
    by_cases h : Venn.formTrue f W = true
    · rw [if_pos h, ih, e, h, Bool.true_and]
    · have h' : Venn.formTrue f W = false := by simpa using h
      rw [if_neg h, e, h']; simp
set_option maxHeartbeats 2000000 in
set_option maxRecDepth 100000 in
theorem core_IndexFunc (v : Value) (l : List Venn.Form) (g : Nat) (th a b d : Int) (w : World) (hl : IsForms w v l) (hk : KindsOk w) (hB : Blk w g 25 #[.int .i64 th, .int .i64 a, .int .i64 b, .int .i64 d])
    (hok : ∀ f ∈ l, Venn.formChk f = 0) (hw : Venn.worldChk ⟨th, a, b, d⟩ = 0) :
    Calls Tryd.prog 92 #[v, .func (.func 76) #[] #[.pointer (some ⟨g, 0, none⟩)]] w (Keeps (.int .i64 (idxF ⟨th, a, b, d⟩ l 0)) w) := by
  obtain ⟨A, cA, rfl, hra, hla, hlb⟩ := hl
  have hlb' := hlb
  unfold maxLen at hlb'
  obtain ⟨E, hE⟩ : ∃ E, E = idxF ⟨th, a, b, d⟩ l 0 := ⟨_, rfl⟩
  rw [← hE]
  have HE := Lib.hid hE
  have HK := Lib.hid hk
  have HRA := Lib.hid hra
  have HOK := Lib.hid hok
  have HW := Lib.hid hw
  have HB := Lib.hid hB
  have hcf : ∀ args W, (callFunc 76 args).run Tryd.prog W = .ok (.enter 76 args) W := fun args W => callFunc_enter Tryd.func76 (by kernel_rfl) rfl args W
  clear hE hk hra hok hw hB
  go_enter Tryd.func92, Tryd.ntmps92
  go_wp2
  go_loopw [8] (fun i wr => ∃ k : Nat, k ≤ l.length ∧ i = .int .i64 k ∧ Below w.heap.size w wr ∧ E = idxF ⟨th, a, b, d⟩ (l.drop k) k) (fun i _ => l.length - (intOf i).toNat)
  case atStart => exact ⟨0, Nat.zero_le _, rfl, by (repeat' (first | (with_reducible exact Below.refl _ _) | (with_reducible assumption) | (with_reducible refine Below.next ?_ (by with_reducible assumption)) | (with_reducible refine Below.drew ?_) | (with_reducible refine Below.laid ?_ _) | (with_reducible refine Below.setCell ?_ ?_ _) | (with_reducible refine size_of ?_) | (with_reducible refine Nat.le_succ_of_le ?_) | go_size)), by rw [List.drop_zero]; exact HE.out⟩
  case round =>
    obtain ⟨k, hk, rfl, hb, hrest⟩ := hrel
    obtain ⟨wo, rfl⟩ : ∃ wo : World, wo = wr := ⟨_, rfl⟩
    have HR := Lib.hid hrest
    clear hrest
    by_cases hlt : k < l.length
    · obtain ⟨ad, sa, sc, rfl, g0, g1, hs, ht⟩ := HRA.out k _ (List.getElem?_eq_getElem hlt)
      have HD := Lib.hid (List.drop_eq_getElem_cons hlt)
      have HO := Lib.hid (HOK.out _ (List.getElem_mem hlt))
      generalize l[k] = at_ at g0 g1 hs ht HD HO
      obtain ⟨fl, fc⟩ := at_
      simp only at g0 g1 hs ht
      have d0 := cell_keep hb g0
      have d1 := cell_keep hb g1
      obtain ⟨sA, sN, rfl⟩ := hs.slice
      obtain ⟨tA, tN, rfl⟩ := ht.slice
      have HSS := Lib.hid hs
      have HTT := Lib.hid ht
      clear g0 g1 hs ht
      have hk1 : (k : Int) < (l.length : Int) := by omega
      have hk0 : (0 : Int) ≤ (k : Int) := by omega
      cases hz : Venn.formTrue ⟨fl, fc⟩ ⟨th, a, b, d⟩
      · have HZ := Lib.hid hz
        have HV := Lib.hid (show E = k by rw [HR.out, HD.out, idxF, hz]; rfl)
        clear hz
        go_wp2_with (go_at_call 76; refine (core_So1 _ _ fl fc g _ _ _ _ _ (HSS.out.keep (by (repeat' (first | (with_reducible exact Below.refl _ _) | (with_reducible assumption) | (with_reducible refine Below.next ?_ (by with_reducible assumption)) | (with_reducible refine Below.drew ?_) | (with_reducible refine Below.laid ?_ _) | (with_reducible refine Below.setCell ?_ ?_ _) | (with_reducible refine size_of ?_) | (with_reducible refine Nat.le_succ_of_le ?_) | go_size)))) (HTT.out.keep (by (repeat' (first | (with_reducible exact Below.refl _ _) | (with_reducible assumption) | (with_reducible refine Below.next ?_ (by with_reducible assumption)) | (with_reducible refine Below.drew ?_) | (with_reducible refine Below.laid ?_ _) | (with_reducible refine Below.setCell ?_ ?_ _) | (with_reducible refine size_of ?_) | (with_reducible refine Nat.le_succ_of_le ?_) | go_size)))) (HK.out.keep (by (repeat' (first | (with_reducible exact Below.refl _ _) | (with_reducible assumption) | (with_reducible refine Below.next ?_ (by with_reducible assumption)) | (with_reducible refine Below.drew ?_) | (with_reducible refine Below.laid ?_ _) | (with_reducible refine Below.setCell ?_ ?_ _) | (with_reducible refine size_of ?_) | (with_reducible refine Nat.le_succ_of_le ?_) | go_size)))) (HB.out.keep (by (repeat' (first | (with_reducible exact Below.refl _ _) | (with_reducible assumption) | (with_reducible refine Below.next ?_ (by with_reducible assumption)) | (with_reducible refine Below.drew ?_) | (with_reducible refine Below.laid ?_ _) | (with_reducible refine Below.setCell ?_ ?_ _) | (with_reducible refine size_of ?_) | (with_reducible refine Nat.le_succ_of_le ?_) | go_size)))) HO.out HW.out).mono ?_; rintro e w1 ⟨rfl, hb1⟩; rw [HZ.out])
        go_ret
        exact ⟨ret_int HV.out.symm, by (repeat' (first | (with_reducible exact Below.refl _ _) | (with_reducible assumption) | (with_reducible refine Below.next ?_ (by with_reducible assumption)) | (with_reducible refine Below.drew ?_) | (with_reducible refine Below.laid ?_ _) | (with_reducible refine Below.setCell ?_ ?_ _) | (with_reducible refine size_of ?_) | (with_reducible refine Nat.le_succ_of_le ?_) | go_size))⟩
      · have HZ := Lib.hid hz
        have HV := Lib.hid (show E = idxF ⟨th, a, b, d⟩ (l.drop (k + 1)) (k + 1) by rw [HR.out, HD.out, idxF, hz]; rfl)
        clear hz
        go_wp2_with (go_at_call 76; refine (core_So1 _ _ fl fc g _ _ _ _ _ (HSS.out.keep (by (repeat' (first | (with_reducible exact Below.refl _ _) | (with_reducible assumption) | (with_reducible refine Below.next ?_ (by with_reducible assumption)) | (with_reducible refine Below.drew ?_) | (with_reducible refine Below.laid ?_ _) | (with_reducible refine Below.setCell ?_ ?_ _) | (with_reducible refine size_of ?_) | (with_reducible refine Nat.le_succ_of_le ?_) | go_size)))) (HTT.out.keep (by (repeat' (first | (with_reducible exact Below.refl _ _) | (with_reducible assumption) | (with_reducible refine Below.next ?_ (by with_reducible assumption)) | (with_reducible refine Below.drew ?_) | (with_reducible refine Below.laid ?_ _) | (with_reducible refine Below.setCell ?_ ?_ _) | (with_reducible refine size_of ?_) | (with_reducible refine Nat.le_succ_of_le ?_) | go_size)))) (HK.out.keep (by (repeat' (first | (with_reducible exact Below.refl _ _) | (with_reducible assumption) | (with_reducible refine Below.next ?_ (by with_reducible assumption)) | (with_reducible refine Below.drew ?_) | (with_reducible refine Below.laid ?_ _) | (with_reducible refine Below.setCell ?_ ?_ _) | (with_reducible refine size_of ?_) | (with_reducible refine Nat.le_succ_of_le ?_) | go_size)))) (HB.out.keep (by (repeat' (first | (with_reducible exact Below.refl _ _) | (with_reducible assumption) | (with_reducible refine Below.next ?_ (by with_reducible assumption)) | (with_reducible refine Below.drew ?_) | (with_reducible refine Below.laid ?_ _) | (with_reducible refine Below.setCell ?_ ?_ _) | (with_reducible refine size_of ?_) | (with_reducible refine Nat.le_succ_of_le ?_) | go_size)))) HO.out HW.out).mono ?_; rintro e w1 ⟨rfl, hb1⟩; rw [HZ.out])
        go_roundw
        case rel => exact ⟨k + 1, by omega, by go_num, by (repeat' (first | (with_reducible exact Below.refl _ _) | (with_reducible assumption) | (with_reducible refine Below.next ?_ (by with_reducible assumption)) | (with_reducible refine Below.drew ?_) | (with_reducible refine Below.laid ?_ _) | (with_reducible refine Below.setCell ?_ ?_ _) | (with_reducible refine size_of ?_) | (with_reducible refine Nat.le_succ_of_le ?_) | go_size)), HV.out⟩
        case measure => simp [intOf]; omega
    · have HV := Lib.hid (show E = -1 by rw [HR.out, List.drop_eq_nil_of_le (by omega)]; rfl)
      go_wp2
      go_ret
      exact ⟨ret_int HV.out.symm, hb⟩

set_option maxHeartbeats 1000000 in
theorem core_So (v : Value) (l : List Venn.Form) (th a b d : Int) (w : World) (hl : IsForms w v l) (hk : KindsOk w) (hok : ∀ f ∈ l, Venn.formChk f = 0) (hw : Venn.worldChk ⟨th, a, b, d⟩ = 0) :
    Calls Tryd.prog 57 #[v, .agg #[.int .i64 th, .int .i64 a, .int .i64 b, .int .i64 d]] w (Keeps (.bool (Venn.formsTrue l ⟨th, a, b, d⟩)) w) := by
  obtain ⟨A, cA, rfl, hra, hla, hlb⟩ := hl
  have HL := Lib.hid (show IsForms w (.slice A l.length cA) l from ⟨A, cA, rfl, hra, hla, hlb⟩)
  have HK := Lib.hid hk
  have HOK := Lib.hid hok
  have HW := Lib.hid hw
  have HN := Lib.hid (idxF_nonneg ⟨th, a, b, d⟩ l 0)
  have HC : ∀ g W, IsForms W (.slice A l.length cA) l → KindsOk W → Blk W g 25 #[.int .i64 th, .int .i64 a, .int .i64 b, .int .i64 d] →
      Calls Tryd.prog 75 #[.slice A l.length cA, .func (.func 76) #[] #[.pointer (some ⟨g, 0, none⟩)]] W (Keeps (.bool (!Venn.formsTrue l ⟨th, a, b, d⟩)) W) := by
    intro g W h1 h2 h3
    have HI := Lib.hid (core_IndexFunc _ l g th a b d W h1 h2 h3 HOK.out HW.out)
    clear h1 h2 h3
    rw [← HN.out]
    generalize idxF ⟨th, a, b, d⟩ l 0 = I at HI
    go_enter Tryd.func75, Tryd.ntmps75
    go_wp2_with (go_at_call 92; refine (HI.out).mono ?_; rintro e w1 ⟨rfl, hb1⟩)
    all_goals
      go_ret
      exact ⟨by simp_all, by (repeat' (first | (with_reducible exact Below.refl _ _) | (with_reducible assumption) | (with_reducible refine Below.next ?_ (by with_reducible assumption)) | (with_reducible refine Below.drew ?_) | (with_reducible refine Below.laid ?_ _) | (with_reducible refine Below.setCell ?_ ?_ _) | (with_reducible refine size_of ?_) | (with_reducible refine Nat.le_succ_of_le ?_) | go_size))⟩
  have HCC := Lib.hid HC
  clear HC hra hk hok hw
  go_enter Tryd.func57, Tryd.ntmps57
  go_wp2_with (go_at_call 75; refine (HCC.out _ _ (HL.out.keep (by (repeat' (first | (with_reducible exact Below.refl _ _) | (with_reducible assumption) | (with_reducible refine Below.next ?_ (by with_reducible assumption)) | (with_reducible refine Below.drew ?_) | (with_reducible refine Below.laid ?_ _) | (with_reducible refine Below.setCell ?_ ?_ _) | (with_reducible refine size_of ?_) | (with_reducible refine Nat.le_succ_of_le ?_) | go_size)))) (HK.out.keep (by (repeat' (first | (with_reducible exact Below.refl _ _) | (with_reducible assumption) | (with_reducible refine Below.next ?_ (by with_reducible assumption)) | (with_reducible refine Below.drew ?_) | (with_reducible refine Below.laid ?_ _) | (with_reducible refine Below.setCell ?_ ?_ _) | (with_reducible refine size_of ?_) | (with_reducible refine Nat.le_succ_of_le ?_) | go_size)))) (Blk.new _ _ _)).mono ?_; rintro e w1 ⟨rfl, hb1⟩)
  go_ret
  exact ⟨by simp, by (repeat' (first | (with_reducible exact Below.refl _ _) | (with_reducible assumption) | (with_reducible refine Below.next ?_ (by with_reducible assumption)) | (with_reducible refine Below.drew ?_) | (with_reducible refine Below.laid ?_ _) | (with_reducible refine Below.setCell ?_ ?_ _) | (with_reducible refine size_of ?_) | (with_reducible refine Nat.le_succ_of_le ?_) | go_size))⟩
end Go.Proofs.YtcbjmfljdmomhaaDoor

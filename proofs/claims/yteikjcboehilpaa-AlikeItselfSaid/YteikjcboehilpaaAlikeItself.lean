/-
  PROVED: vennlaw4.AlikeItself answers true, at any row of integers. No condition.
-/
import Derived.Test.YteikjcboehilpaaAlike
import Derived.Test.YteikjcboehilpaaOpen
import Derived.Test.YteikjcboehilpaaApp
namespace Go.Proofs.Yteikjcboehilpaa
open Go.ChangeShapes Go.WideShapes Go.ChangeAt Go.RowKit

theorem alikeItself_bad (v : Value) (t : List Int) (w : World) (h : IsInts w v t) (hz : Venn.termChk t ≠ 0) : Calls Try.prog 6 #[v] w (Keeps (.bool true) w) := by
  have hc : ∀ s, Venn.chk2 t s = Venn.termChk t := fun s => by rw [Venn.chk2, if_neg hz]
  have hx := Lib.hid (fun s => (show errV (Venn.chk2 t s) = .iface 23 (.int .i64 (Venn.termChk t)) by rw [hc]; exact errV_ne hz))
  have hy := Lib.hid (errV_ne hz)
  have hsame := Lib.hid (show Venn.sameV t t = false by simp [Venn.sameV, hc, hz])
  have hpart := Lib.hid (show Venn.partV t [4] = false by simp [Venn.partV, hc, hz])
  clear hc hz
  go_enter Try.func6, Try.ntmps6
  go_wp2_with fail
  refine (alike_Same _ _ t t _ h h).mono ?_
  rintro e w1 ⟨rfl, hb1⟩
  rw [hx.out, hsame.out]
  go_wp2_with fail
  refine (alike_Part _ _ t [4] _ (h.keep (by (repeat' (first | (with_reducible exact Below.refl _ _) | (with_reducible refine Below.next ?_ (by with_reducible assumption)) | (with_reducible refine Below.drew ?_) | (with_reducible refine Below.laid ?_ _) | (with_reducible refine Below.setCell ?_ ?_ _) | (with_reducible refine size_of ?_) | (with_reducible refine Nat.le_succ_of_le ?_) | go_size)))) (IsInts.one _ _ _)).mono ?_
  rintro e w2 ⟨rfl, hb2⟩
  rw [hx.out, hpart.out]
  go_wp2_with (go_at_call 14; refine (term_Check _ t _ (h.keep (by (repeat' (first | (with_reducible exact Below.refl _ _) | (with_reducible refine Below.next ?_ (by with_reducible assumption)) | (with_reducible refine Below.drew ?_) | (with_reducible refine Below.laid ?_ _) | (with_reducible refine Below.setCell ?_ ?_ _) | (with_reducible refine size_of ?_) | (with_reducible refine Nat.le_succ_of_le ?_) | go_size))))).mono ?_; rintro e w' ⟨rfl, rfl⟩; rw [hy.out])
  go_ret
  exact ⟨rfl, by (repeat' (first | (with_reducible exact Below.refl _ _) | (with_reducible refine Below.next ?_ (by with_reducible assumption)) | (with_reducible refine Below.drew ?_) | (with_reducible refine Below.laid ?_ _) | (with_reducible refine Below.setCell ?_ ?_ _) | (with_reducible refine size_of ?_) | (with_reducible refine Nat.le_succ_of_le ?_) | go_size))⟩

set_option maxHeartbeats 2000000 in
set_option maxRecDepth 100000 in
theorem alikeItself_ok (v : Value) (t : List Int) (w : World) (h : IsInts w v t) (hz : Venn.termChk t = 0) : Calls Try.prog 6 #[v] w (Keeps (.bool true) w) := by
  obtain ⟨h0, h12, _, _⟩ := Venn.termChk_parts hz
  have hc1 : Venn.chk2 t t = 0 := by rw [Venn.chk2, if_pos hz, hz]
  have hc2 : Venn.chk2 t [4] = 0 := by rw [Venn.chk2, if_pos hz]; rfl
  have hx1 := Lib.hid (errV_zero hc1); have hx2 := Lib.hid (errV_zero hc2)
  have hsame := Lib.hid (Venn.same_self hz)
  have hpart := Lib.hid (Venn.part_all hz)
  have HZ := Lib.hid hz
  have hv : ∃ A c, v = .slice A t.length c := by obtain ⟨A, c, hv, _⟩ := h; exact ⟨A, c, hv⟩
  obtain ⟨A, c, rfl⟩ := hv
  clear hc1 hc2 hz
  go_enter Try.func6, Try.ntmps6
  go_wp2_with fail
  refine (alike_Same _ _ t t _ h h).mono ?_
  rintro e w1 ⟨rfl, hb1⟩
  rw [hx1.out, hsame.out]
  go_wp2_with fail
  refine (alike_Part _ _ t [4] _ (h.keep (by (repeat' (first | (with_reducible exact Below.refl _ _) | (with_reducible refine Below.next ?_ (by with_reducible assumption)) | (with_reducible refine Below.drew ?_) | (with_reducible refine Below.laid ?_ _) | (with_reducible refine Below.setCell ?_ ?_ _) | (with_reducible refine size_of ?_) | (with_reducible refine Nat.le_succ_of_le ?_) | go_size)))) (IsInts.one _ _ _)).mono ?_
  rintro e w2 ⟨rfl, hb2⟩
  rw [hx2.out, hpart.out]
  by_cases hl : 11 < t.length
  · go_wp2
    go_ret
    exact ⟨rfl, by (repeat' (first | (with_reducible exact Below.refl _ _) | (with_reducible refine Below.next ?_ (by with_reducible assumption)) | (with_reducible refine Below.drew ?_) | (with_reducible refine Below.laid ?_ _) | (with_reducible refine Below.setCell ?_ ?_ _) | (with_reducible refine size_of ?_) | (with_reducible refine Nat.le_succ_of_le ?_) | go_size))⟩
  · have hl' : t.length ≤ 11 := by omega
    obtain ⟨A', c', hv', hr, _, _⟩ : IsInts w2 (.slice A t.length c) t := h.keep (by (repeat' (first | (with_reducible exact Below.refl _ _) | (with_reducible refine Below.next ?_ (by with_reducible assumption)) | (with_reducible refine Below.drew ?_) | (with_reducible refine Below.laid ?_ _) | (with_reducible refine Below.setCell ?_ ?_ _) | (with_reducible refine size_of ?_) | (with_reducible refine Nat.le_succ_of_le ?_) | go_size)))
    simp only [Value.slice.injEq] at hv'
    obtain ⟨rfl, _, rfl⟩ := hv'
    go_wp2_with (at_builtin; refine wpList_appR _ rfl (.tmp 38) (.tmp 39) rfl w2.heap.size (.slice none 0 0) 0 [] rfl (World.ownsRow_nil _ _ _ _) A c t rfl hr (by omega) (Nat.le_refl _) ?_)
    intro v3 w3 hown3 hg3
    have hb3 : Below w2.heap.size w2 w3 := (Below.refl _ _).grown hg3 (Nat.le_refl _) (by simp [Value.ownBlock])
    have hown3 : w3.ownsRow w2.heap.size 3 1 v3 t.length (t.map (Value.int .i64)) := by simpa using hown3
    go_wp2_with (at_builtin; refine wpList_app1 _ rfl (.tmp 41) (.tmp 42) rfl w2.heap.size v3 t.length _ rfl (hown3.alloc _) w3.heap.size 1 8 rfl ?hy (by omega) (by have := hb3.size; simp; omega) ?_)
    try case hy => simp
    intro v4 w4 hown4 hg4
    have hb4 : Below w2.heap.size w2 w4 := (hb3.alloc hb3.size _).grown hg4 (by have := hb3.size; simp; omega) (fun k hk => (hown3.lt k hk).1)
    have hI : IsInts w4 v4 (t ++ [8]) := IsInts.of_own (base := w2.heap.size) (e := 3) (n := t.length + 1) (by simpa using hown4)
    have hT : IsInts w4 (.slice A t.length c) t := h.keep (by (repeat' (first | (with_reducible exact Below.refl _ _) | (with_reducible refine Below.next ?_ (by with_reducible assumption)) | (with_reducible refine Below.drew ?_) | (with_reducible refine Below.laid ?_ _) | (with_reducible refine Below.setCell ?_ ?_ _) | (with_reducible refine size_of ?_) | (with_reducible refine Nat.le_succ_of_le ?_) | go_size)))
    have ha := Venn.apart_not HZ.out hl'
    have hc3 : errV (Venn.chk2 t (t ++ [8])) = .nilIface := errV_zero (by rw [Venn.chk2, if_pos HZ.out]; exact Venn.termChk_not HZ.out hl')
    have HA := Lib.hid ha; have HC := Lib.hid hc3
    clear ha hc3
    go_wp2_with fail
    refine (alike_Apart _ _ t (t ++ [8]) _ hT hI).mono ?_
    rintro e w5 ⟨rfl, hb5⟩
    rw [HA.out, HC.out]
    go_wp2
    go_ret
    exact ⟨rfl, by (repeat' (first | (with_reducible exact Below.refl _ _) | (with_reducible refine Below.next ?_ (by with_reducible assumption)) | (with_reducible refine Below.drew ?_) | (with_reducible refine Below.laid ?_ _) | (with_reducible refine Below.setCell ?_ ?_ _) | (with_reducible refine size_of ?_) | (with_reducible refine Nat.le_succ_of_le ?_) | go_size))⟩

theorem alikeItself_walk (v : Value) (t : List Int) (w : World) (h : IsInts w v t) : Calls Try.prog 6 #[v] w (Keeps (.bool true) w) := by
  by_cases hz : Venn.termChk t = 0
  · exact alikeItself_ok v t w h hz
  · exact alikeItself_bad v t w h hz

set_option maxRecDepth 100000 in
theorem alikeItself_lifted (os : Os) (started : os.Started) (H : Type) (enc : TypeId × Value → H) :
    ReturnsInHanded {} Try.checked os 6 .any (Rows.alikeItselfSpec.pre6 enc Try.prog Try.f6 Rows.alikeItselfRow.domain false) (Rows.alikeItselfSpec.post enc Try.prog Try.f6 false true false false) := by
  refine returnsInHanded_of_change (C := Try.checked) own started (by kernel_rfl) Try.func6
    (ChangeSpec.witness6 (enc := enc) (C := Try.checked) false ⟨#[], #[.slice none 0 0], []⟩ 8 (by kernel_rfl) (by kernel_rfl) (by kernel_rfl) (by kernel_rfl)) ?_
  intro W base args ds gs before hval0 hW _ _
  have hval : ∀ (j : Nat) t v, Try.f6.params[j]? = some t → args[j]? = some v → Value.okWide Try.prog W .any base t v := hval0
  have hW' := hW
  obtain ⟨p, q, hA0, hV, rfl, hfz, hnd⟩ := hW
  have hA : DataW.TrodAll enc Try.prog W 0 (fun _ => true) true Try.f6.params.toList args.toList ds p := hA0
  rw [Try.params6] at hA hval
  obtain ⟨v0, vs0, d0, ds0, p0, q0, hargs, rfl, rfl, h0, r0⟩ := trodAll_cons hA
  obtain ⟨rfl, rfl, rfl⟩ := trodAll_nil r0
  obtain rfl : args = #[v0] := by cases args; simp_all
  obtain ⟨rfl, rfl⟩ := trodVars_none hV
  obtain ⟨t, Ht, wft⟩ := open_isInts Try.underlying33 Try.underlying3 (by kernel_rfl) (hval 0 33 v0 rfl rfl) h0
  clear hA0 hval0
  refine (alikeItself_walk v0 t W Ht).mono fun e W' ⟨he, hw⟩ => ?_
  subst he
  exact ⟨_, rfl, law_post laidOut Try.underlying4 (by kernel_rfl) rfl (by kernel_rfl) hW' rfl hw⟩

theorem alikeItself_holds : Rows.AlikeItselfSaid :=
  OpenClaim.holds_of_wide 6 Try.f6 rfl rfl rfl rfl rfl rfl rfl ⟨rfl, rfl, rfl, rfl, rfl⟩ rfl rfl rfl rfl rfl (by kernel_rfl) Try.func6 (by kernel_rfl)
    (of_decide_eq_true (by kernel_rfl)) (by unfold Func.isWrapper; first | (rw [if_pos (by decide +kernel)]; kernel_rfl) | (rw [if_neg (by decide +kernel)]; exact ⟨rfl, rfl⟩))
    (fun os started H enc _ => alikeItself_lifted os started H enc)
#print axioms alikeItself_holds
end Go.Proofs.Yteikjcboehilpaa

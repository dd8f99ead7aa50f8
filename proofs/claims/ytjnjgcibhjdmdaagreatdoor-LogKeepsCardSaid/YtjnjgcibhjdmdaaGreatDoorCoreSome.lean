/-
  THE WALKS of core.Some and core.Open.
-/
import Derived.Test.YtjnjgcibhjdmdaaGreatDoorSpanG
import Derived.Test.YtjnjgcibhjdmdaaGreatDoorFitG
import Derived.Test.YtjnjgcibhjdmdaaGreatDoorVennP2
import Derived.BigQuiet
namespace Go.Proofs.YtjnjgcibhjdmdaaGreatDoor
open Go.RowKit Go.Shelf
attribute [local go_sem] Oper.semAt_some

set_option maxHeartbeats 2000000 in
set_option maxRecDepth 100000 in
theorem core_Some (v : Value) (ls : List Venn.Form) (u : Int) (w : World) (hl : IsForms w v ls) (hk : KindsOk w) (hok : ∀ f ∈ ls, Venn.formChk f = 0) (hu : Venn.things u = true) :
    Calls Tryz.prog 28 #[v, .int .i64 u] w (Keeps (.bool (Venn.openV ls u)) w) := by
  obtain ⟨L, cL, rfl, hrl⟩ := hl
  have HL := Lib.hid (show IsForms w (.slice L ls.length cL) ls from ⟨L, cL, rfl, hrl⟩)
  have HK := Lib.hid hk
  have HOK := Lib.hid hok
  have HU := Lib.hid hu
  obtain ⟨E, hE⟩ : ∃ E, E = Venn.openV ls u := ⟨_, rfl⟩
  have HE := Lib.hid hE
  rw [← hE]
  clear hrl hk hok hu hE
  refine (callsIn_wide (n := 4)).1 ?_
  refine callsIn_of_wp_marks Tryz.func28 rfl trivial ?_ rfl
  simp only [Tryz.ntmps28, List.size_toArray, List.length_cons, List.length_nil, Nat.reduceAdd, Nat.reduceSub, Array.replicate_succ, Array.replicate_zero, List.push_toArray, List.append_toArray, List.nil_append, List.cons_append]
  gi_wp2_with (refine ⟨trivial, ?_⟩; gi_at_call 50; refine (callsIn_wide.2 (fit_All u _)).mono ?_; rintro e w' ⟨rfl, rfl⟩)
  have B0 : Blk (((w.alloc (.cells #[.slice L ls.length cL] 35)).alloc (.cells #[.bool false] 4)).alloc (.cells #[.int .i64 u] 3)) w.heap.size 35 #[.slice L ls.length cL] := ((Blk.new _ _ _).alloc _).alloc _
  have B1 : Blk (((w.alloc (.cells #[.slice L ls.length cL] 35)).alloc (.cells #[.bool false] 4)).alloc (.cells #[.int .i64 u] 3)) (w.heap.size + 1) 4 #[.bool false] := (Blk.newAt (by simp) _ _).alloc _
  have B2 : Blk (((w.alloc (.cells #[.slice L ls.length cL] 35)).alloc (.cells #[.bool false] 4)).alloc (.cells #[.int .i64 u] 3)) (w.heap.size + 1 + 1) 3 #[.int .i64 u] := Blk.newAt (by simp) _ _
  have hbW : Below w.heap.size w (((w.alloc (.cells #[.slice L ls.length cL] 35)).alloc (.cells #[.bool false] 4)).alloc (.cells #[.int .i64 u] 3)) := by (repeat' (first | (with_reducible exact Below.refl _ _) | (with_reducible assumption) | (with_reducible refine Below.next ?_ (by with_reducible assumption)) | (with_reducible refine Below.drew ?_) | (with_reducible refine Below.laid ?_ _) | (with_reducible refine Below.setCell ?_ ?_ _) | (with_reducible refine size_of ?_) | (with_reducible refine Nat.le_succ_of_le ?_) | go_size))
  have hsz : (((w.alloc (.cells #[.slice L ls.length cL] 35)).alloc (.cells #[.bool false] 4)).alloc (.cells #[.int .i64 u] 3)).heap.size = w.heap.size + 3 := by simp
  generalize (((w.alloc (.cells #[.slice L ls.length cL] 35)).alloc (.cells #[.bool false] 4)).alloc (.cells #[.int .i64 u] 3)) = W0 at B0 B1 B2 hbW hsz ⊢
  have hC : ∀ b, b = w.heap.size + 1 → w.heap.size ≤ b := by omega
  refine wpIn_rangeAll2 u HU.out (w.heap.size + 1 + 1) rfl (B2.cell 0) rfl (fun b => b = w.heap.size + 1) (by intro b hb; omega)
    (fun pre W => (∀ x ∈ pre, Venn.formsTrue ls (Venn.made x) = false) ∧ Blk W (w.heap.size + 1) 4 #[.bool false])
    (fun c pre W => c = .ret ∧ (∃ x ∈ pre, Venn.formsTrue ls (Venn.made x) = true) ∧ Blk W (w.heap.size + 1) 4 #[.bool true])
    (by rintro s X Y hb ⟨h1, h2⟩; exact ⟨h1, h2.below hb (by omega)⟩)
    (by rintro c s X Y hb ⟨h1, h2, h3⟩; exact ⟨h1, h2, h3.below hb (by omega)⟩)
    ⟨by simp, B1⟩ ?round ?done ?stop
  case round =>
    intro lo pre x rest W hxs
    have hm : x ∈ Venn.allC u := by rw [hxs]; simp
    have HWR := Lib.hid (Venn.made_allC HU.out hm)
    have hpar := (Venn.mem_allC HU.out x).1 hm
    have hs6 : x.sum ≤ 6 := by rw [hpar.2.2]; have := HU.out; simp only [Venn.things, Bool.and_eq_true, decide_eq_true_eq] at this; exact this.2
    obtain ⟨a0, a1, a2, a3, a4, a5, a6, a7, rfl, _⟩ := Venn.of_allC HU.out hm
    obtain ⟨M, hM⟩ : ∃ M, Venn.made [a0, a1, a2, a3, a4, a5, a6, a7] = M := ⟨_, rfl⟩
    have HMD := Lib.hid (fun W => fields_Made a0 a1 a2 a3 a4 a5 a6 a7 W hpar.2.1 hs6)
    have HM := Lib.hid hM
    rw [hM] at HMD HWR
    obtain ⟨mt, ma, mb, mc⟩ := M
    replace HWR := Lib.hid HWR.out.1
    clear hm hxs hpar hs6 hM
    unfold cntV
    gi_wp2
    try refine ⟨rfl, ?_⟩
    rintro W2 hbut hp hY hX hBx
    have hbw2 := hbW.trans (hbut.below (show w.heap.size ≤ W0.heap.size by omega) hC)
    have HKW := Lib.hid (HK.out.keep hbw2)
    have HLW := Lib.hid (HL.out.keep hbw2)
    have BL := B0.but hbut (by omega)
    try simp only [List.map] at hX
    obtain ⟨⟨c0, c1, c2, c3, c4, c5, c6, c7⟩, _⟩ := hX.cells8
    have k0 := BL.cell 0
    simp at k0
    have HP := Lib.hid hp
    clear hp
    have hd1 : 1 ≤ 2 := by decide
    cases hso : Venn.formsTrue ls ⟨mt, ma, mb, mc⟩
    · have HS := Lib.hid hso
      clear hso
      gi_wp2_with fail
      gi_region_with (first
        | (refine ⟨trivial, ?_⟩; gi_at_call 41; refine (CallsIn.inRound lo (callsIn_wide.2 (HMD.out _))).mono ?_; rintro e W3 ⟨rfl, hb3⟩; have BL3 := (BL.drew).keep hb3; have Y3 := (hY.drew).keep hb3; have k3 := BL3.cell 0; simp at k3)
        | (refine ⟨trivial, ?_⟩; gi_at_call 51; refine (CallsIn.inRound lo (callsIn_wide.2 (core_So _ ls _ _ _ _ _ (HLW.out.keep (by (repeat' (first | (with_reducible exact Below.refl _ _) | (with_reducible assumption) | (with_reducible refine Below.next ?_ (by with_reducible assumption)) | (with_reducible refine Below.drew ?_) | (with_reducible refine Below.laid ?_ _) | (with_reducible refine Below.setCell ?_ ?_ _) | (with_reducible refine size_of ?_) | (with_reducible refine Nat.le_succ_of_le ?_) | go_size)))) (HKW.out.keep (by (repeat' (first | (with_reducible exact Below.refl _ _) | (with_reducible assumption) | (with_reducible refine Below.next ?_ (by with_reducible assumption)) | (with_reducible refine Below.drew ?_) | (with_reducible refine Below.laid ?_ _) | (with_reducible refine Below.setCell ?_ ?_ _) | (with_reducible refine size_of ?_) | (with_reducible refine Nat.le_succ_of_le ?_) | go_size)))) HOK.out HWR.out))).mono ?_; rintro e W4 ⟨rfl, hb4⟩; rw [HS.out]; have Y4 := Y3.keep hb4; have e4 := Y4.cell 0; have f4 := Y4.frozen 0))
      all_goals
        gi_wp2
        refine ⟨But.of_below (show Below W2.heap.size W2 W4 by (repeat' (first | (with_reducible exact Below.refl _ _) | (with_reducible assumption) | (with_reducible refine Below.next ?_ (by with_reducible assumption)) | (with_reducible refine Below.drew ?_) | (with_reducible refine Below.laid ?_ _) | (with_reducible refine Below.setCell ?_ ?_ _) | (with_reducible refine size_of ?_) | (with_reducible refine Nat.le_succ_of_le ?_) | go_size))), fun x hx => ?_, Y4⟩
        rcases List.mem_append.1 hx with h | h
        · exact HP.out x h
        · rw [List.mem_singleton.1 h, HM.out]; exact HS.out
    · have HS := Lib.hid hso
      clear hso
      gi_wp2_with fail
      gi_region_with (first
        | (refine ⟨trivial, ?_⟩; gi_at_call 41; refine (CallsIn.inRound lo (callsIn_wide.2 (HMD.out _))).mono ?_; rintro e W3 ⟨rfl, hb3⟩; have BL3 := (BL.drew).keep hb3; have Y3 := (hY.drew).keep hb3; have k3 := BL3.cell 0; simp at k3)
        | (refine ⟨trivial, ?_⟩; gi_at_call 51; refine (CallsIn.inRound lo (callsIn_wide.2 (core_So _ ls _ _ _ _ _ (HLW.out.keep (by (repeat' (first | (with_reducible exact Below.refl _ _) | (with_reducible assumption) | (with_reducible refine Below.next ?_ (by with_reducible assumption)) | (with_reducible refine Below.drew ?_) | (with_reducible refine Below.laid ?_ _) | (with_reducible refine Below.setCell ?_ ?_ _) | (with_reducible refine size_of ?_) | (with_reducible refine Nat.le_succ_of_le ?_) | go_size)))) (HKW.out.keep (by (repeat' (first | (with_reducible exact Below.refl _ _) | (with_reducible assumption) | (with_reducible refine Below.next ?_ (by with_reducible assumption)) | (with_reducible refine Below.drew ?_) | (with_reducible refine Below.laid ?_ _) | (with_reducible refine Below.setCell ?_ ?_ _) | (with_reducible refine size_of ?_) | (with_reducible refine Nat.le_succ_of_le ?_) | go_size)))) HOK.out HWR.out))).mono ?_; rintro e W4 ⟨rfl, hb4⟩; rw [HS.out]; have Y4 := Y3.keep hb4; have e4 := Y4.cell 0; have f4 := Y4.frozen 0))
      all_goals
        gi_wp2
        exact ⟨(But.of_below (C := fun b => b = w.heap.size + 1) (show Below W2.heap.size W2 W4 by (repeat' (first | (with_reducible exact Below.refl _ _) | (with_reducible assumption) | (with_reducible refine Below.next ?_ (by with_reducible assumption)) | (with_reducible refine Below.drew ?_) | (with_reducible refine Below.laid ?_ _) | (with_reducible refine Below.setCell ?_ ?_ _) | (with_reducible refine size_of ?_) | (with_reducible refine Nat.le_succ_of_le ?_) | go_size)))).set_ (p := ⟨w.heap.size + 1, 0, none⟩) rfl _, rfl, ⟨_, List.mem_append_right _ (List.mem_singleton.2 rfl), by rw [HM.out]; exact HS.out⟩, Y4.set_ 0 _⟩
  case done =>
    rintro D W hD hbut ⟨h1, h2⟩ hK
    have e8 := h2.cell 0
    have f8 := h2.frozen 0
    have hV := Lib.hid (show E = false by
      rw [HE.out]; exact Venn.openV_false.2 h1)
    clear h1
    gi_wp2
    have hK' := def_keep hK (p := ⟨w.heap.size + 1, 0, none⟩) (by show D ≠ w.heap.size + 1; omega) (.bool false)
    have G3 := h2.set_ 0 (.bool false)
    have GB := (hbut.set_ (p := ⟨w.heap.size + 1, 0, none⟩) rfl (.bool false)).put hD (.deferred none)
    clear h2 hK e8 f8
    revert hK' G3 GB
    generalize World.setCell _ _ _ = W1
    intro hK' G3 GB
    have e8 := (G3.put (D := D) (by omega) (.deferred none)).cell 0
    refine leave_mark (v := .bool false) rfl hK' ?_ ⟨congrArg (fun b => Ending.returned (.bool b)) hV.out.symm, hbW.trans (GB.below (by omega) hC)⟩
    generalize W1.putObj D (.deferred none) = W2 at e8 ⊢
    simp [results, Tryz.results28, go_sem, e8]
  case stop =>
    rintro D c pre x rest W hD hxs hbut ⟨rfl, ⟨y, hy, hyt⟩, h6⟩ hK
    gi_wp2
    have hV := Lib.hid (show E = true by
      rw [HE.out]
      refine Venn.openV_iff.2 ⟨y, ?_, hyt⟩
      rw [hxs]
      rcases List.mem_append.1 hy with h | h
      · exact List.mem_append_left _ h
      · rw [List.mem_singleton.1 h]; simp)
    have GB := hbut.put hD (.deferred none)
    have e8 := (h6.put (D := D) (by omega) (.deferred none)).cell 0
    refine leave_mark (v := .bool true) rfl hK ?_ ⟨congrArg (fun b => Ending.returned (.bool b)) hV.out.symm, hbW.trans (GB.below (by omega) hC)⟩
    generalize W.putObj D (.deferred none) = W2 at e8 ⊢
    simp [results, Tryz.results28, go_sem, e8]

theorem forms_slice {w : World} {v : Value} {l : List Venn.Form} (h : IsForms w v l) : ∃ A c, v = .slice A l.length c := let ⟨A, c, e, _⟩ := h; ⟨A, c, e⟩
def openVv (ls : List Venn.Form) (u : Int) : Value := .tuple #[.bool (Venn.openR ls u), errV (Venn.coreChk ls u)]
theorem openVv_ok {ls : List Venn.Form} {u : Int} {b : Bool} (h : Venn.coreChk ls u = 0) (hb : Venn.openV ls u = b) : openVv ls u = .tuple #[.bool b, .nilIface] := by rw [openVv, Venn.openR, if_pos h, h, hb]; rfl
theorem openVv_bad {ls : List Venn.Form} {u : Int} (h : Venn.coreChk ls u ≠ 0) : openVv ls u = .tuple #[.bool false, .iface 59 (.int .i64 (Venn.coreChk ls u))] := by rw [openVv, Venn.openR, if_neg h, errV_ne h]
end Go.Proofs.YtjnjgcibhjdmdaaGreatDoor

/-
  THE WALKS of package ask: what, answer, check, Of. (Written by gen_ask.py.)
-/
import Derived.Test.YtjnjgcibhjdmdaaGreatDoorSpanG
import Derived.Stop.RegionWithIn
namespace Go.Proofs.YtjnjgcibhjdmdaaGreatDoor
open Go.RowKit Go.Shelf
attribute [local go_sem] Oper.semAt_some

/-- What lies where ask.what is left. -/
structure AskEnd (w X : World) (g D : Nat) (Y N : Int) : Prop where
  yes : Blk X g 3 #[.int .i64 Y]
  no : Blk X (g + 1) 3 #[.int .i64 N]
  mark : X.heap[D]? = some (.deferred (some []))
  below : Below w.heap.size w X
theorem AskEnd.drew {w X : World} {g D : Nat} {Y N : Int} (h : AskEnd w X g D Y N) : AskEnd w X.drew g D Y N := ⟨h.yes.drew, h.no.drew, h.mark, h.below.drew⟩
theorem AskEnd.setY {w X : World} {g D : Nat} {Y N : Int} (h : AskEnd w X g D Y N) (hg : w.heap.size ≤ g) (hD : g + 1 < D) : AskEnd w (X.setCell ⟨g, 0, none⟩ (.int .i64 Y)) g D Y N :=
  ⟨h.yes.set_ 0 _, h.no.far (p := ⟨g, 0, none⟩) (by simp) _, def_keep h.mark (p := ⟨g, 0, none⟩) (by show D ≠ g; omega) _, h.below.setCell (p := ⟨g, 0, none⟩) hg _⟩
theorem AskEnd.setN {w X : World} {g D : Nat} {Y N : Int} (h : AskEnd w X g D Y N) (hg : w.heap.size ≤ g) (hD : g + 1 < D) : AskEnd w (X.setCell ⟨g + 1, 0, none⟩ (.int .i64 N)) g D Y N :=
  ⟨h.yes.far (p := ⟨g + 1, 0, none⟩) (by simp) _, h.no.set_ 0 _, def_keep h.mark (p := ⟨g + 1, 0, none⟩) (by show D ≠ g + 1; omega) _, h.below.setCell (p := ⟨g + 1, 0, none⟩) (by show w.heap.size ≤ g + 1; omega) _⟩
theorem ask_leave {F : Fence} {n : Nat} {P : Program} {fn : Func} {w X : World} {g D : Nat} {Y N : Int} {a : Act} {E : Value} (G : AskEnd w X g D Y N) (hD : g + 1 < D) (hg : w.heap.size ≤ g) (hd : a.defers = [{ target := .collected D, args := #[] }])
    (hr : ∀ Z : World, Z.cell? ⟨g, 0, none⟩ = some (.int .i64 Y) → Z.cell? ⟨g + 1, 0, none⟩ = some (.int .i64 N) → (results fn a.tmps).run P Z = .ok (.tuple #[.int .i64 Y, .int .i64 N]) Z) (hE : E = .tuple #[.int .i64 Y, .int .i64 N]) :
    bodyPostM F n P fn (Keeps E w) .ret a X := by
  refine leave_mark hd G.mark (hr _ ((G.yes.put (D := D) (by omega) _).cell 0) ((G.no.put (D := D) (by omega) _).cell 0)) ⟨congrArg Ending.returned hE.symm, below_put G.below (by omega) _⟩

theorem ask_answer (y n : Int) (w : World) : Calls Tryz.prog 36 #[.int .i64 y, .int .i64 n] w (Pure (.int .i64 (Venn.answer y n)) w) := by
  by_cases hn : n = 0
  · subst hn
    rw [show Venn.answer y 0 = 1 from if_pos rfl]
    go_enter Tryz.func36, Tryz.ntmps36
    go_wp2
    go_ret
    exact ⟨rfl, rfl⟩
  · have e1 : (n == 0) = false := by simpa using hn
    by_cases hy : y = 0
    · subst hy
      rw [show Venn.answer 0 n = -1 by rw [Venn.answer, if_neg hn, if_pos rfl]]
      clear hn
      go_enter Tryz.func36, Tryz.ntmps36
      go_wp2
      go_ret
      exact ⟨rfl, rfl⟩
    · have e2 : (y == 0) = false := by simpa using hy
      rw [show Venn.answer y n = 0 by rw [Venn.answer, if_neg hn, if_neg hy]]
      clear hn hy
      go_enter Tryz.func36, Tryz.ntmps36
      go_wp2
      go_ret
      exact ⟨rfl, rfl⟩

set_option maxHeartbeats 1000000 in
theorem ask_check (v sa sc : Value) (ls : List Venn.Form) (l : List Venn.Atom) (c : List Int) (u : Int) (w : World) (hl : IsForms w v ls) (ha : IsAtoms w sa l) (hc : IsInts w sc c) (hk : KindsOk w) :
    Calls Tryz.prog 34 #[v, .agg #[sa, sc], .int .i64 u] w (Keeps (errV (Venn.askChk ls ⟨l, c⟩ u)) w) := by
  obtain ⟨L, cL, rfl, hrl⟩ := hl
  have HL := Lib.hid (show IsForms w (.slice L ls.length cL) ls from ⟨L, cL, rfl, hrl⟩)
  obtain ⟨A, cA, rfl⟩ := ha.slice
  obtain ⟨C, cC, rfl⟩ := hc.slice
  have HA := Lib.hid ha
  have HC := Lib.hid hc
  have HK := Lib.hid hk
  clear hrl ha hc hk
  by_cases h1 : Venn.coreChk ls u = 0
  · have HX := Lib.hid (errV_zero h1)
    rw [show Venn.askChk ls ⟨l, c⟩ u = Venn.formChk ⟨l, c⟩ from if_pos h1]
    clear h1
    go_enter Tryz.func34, Tryz.ntmps34
    go_wp2_with (first
      | (go_at_call 62; refine (core_Check _ ls u _ (HL.out.keep (by (repeat' (first | (with_reducible exact Below.refl _ _) | (with_reducible assumption) | (with_reducible refine Below.next ?_ (by with_reducible assumption)) | (with_reducible refine Below.drew ?_) | (with_reducible refine Below.laid ?_ _) | (with_reducible refine Below.setCell ?_ ?_ _) | (with_reducible refine size_of ?_) | (with_reducible refine Nat.le_succ_of_le ?_) | go_size)))) (HK.out.keep (by (repeat' (first | (with_reducible exact Below.refl _ _) | (with_reducible assumption) | (with_reducible refine Below.next ?_ (by with_reducible assumption)) | (with_reducible refine Below.drew ?_) | (with_reducible refine Below.laid ?_ _) | (with_reducible refine Below.setCell ?_ ?_ _) | (with_reducible refine size_of ?_) | (with_reducible refine Nat.le_succ_of_le ?_) | go_size))))).mono ?_; rintro e w1 ⟨rfl, hb1⟩; rw [HX.out]; have BF := (Blk.new w 38 #[.slice A l.length cA, .slice C c.length cC]).keep hb1; obtain ⟨k0, k1⟩ := BF.cells2.1)
      | (go_at_call 37; refine (form_Check _ _ l c _ (HA.out.keep (by (repeat' (first | (with_reducible exact Below.refl _ _) | (with_reducible assumption) | (with_reducible refine Below.next ?_ (by with_reducible assumption)) | (with_reducible refine Below.drew ?_) | (with_reducible refine Below.laid ?_ _) | (with_reducible refine Below.setCell ?_ ?_ _) | (with_reducible refine size_of ?_) | (with_reducible refine Nat.le_succ_of_le ?_) | go_size)))) (HC.out.keep (by (repeat' (first | (with_reducible exact Below.refl _ _) | (with_reducible assumption) | (with_reducible refine Below.next ?_ (by with_reducible assumption)) | (with_reducible refine Below.drew ?_) | (with_reducible refine Below.laid ?_ _) | (with_reducible refine Below.setCell ?_ ?_ _) | (with_reducible refine size_of ?_) | (with_reducible refine Nat.le_succ_of_le ?_) | go_size)))) (HK.out.keep (by (repeat' (first | (with_reducible exact Below.refl _ _) | (with_reducible assumption) | (with_reducible refine Below.next ?_ (by with_reducible assumption)) | (with_reducible refine Below.drew ?_) | (with_reducible refine Below.laid ?_ _) | (with_reducible refine Below.setCell ?_ ?_ _) | (with_reducible refine size_of ?_) | (with_reducible refine Nat.le_succ_of_le ?_) | go_size))))).mono ?_; rintro e w2 ⟨rfl, hb2⟩))
    go_ret
    exact ⟨rfl, by (repeat' (first | (with_reducible exact Below.refl _ _) | (with_reducible assumption) | (with_reducible refine Below.next ?_ (by with_reducible assumption)) | (with_reducible refine Below.drew ?_) | (with_reducible refine Below.laid ?_ _) | (with_reducible refine Below.setCell ?_ ?_ _) | (with_reducible refine size_of ?_) | (with_reducible refine Nat.le_succ_of_le ?_) | go_size))⟩
  · have HX := Lib.hid (errV_ne h1)
    rw [show Venn.askChk ls ⟨l, c⟩ u = Venn.coreChk ls u from if_neg h1, HX.out]
    clear h1
    go_enter Tryz.func34, Tryz.ntmps34
    go_wp2_with (go_at_call 62; refine (core_Check _ ls u _ (HL.out.keep (by (repeat' (first | (with_reducible exact Below.refl _ _) | (with_reducible assumption) | (with_reducible refine Below.next ?_ (by with_reducible assumption)) | (with_reducible refine Below.drew ?_) | (with_reducible refine Below.laid ?_ _) | (with_reducible refine Below.setCell ?_ ?_ _) | (with_reducible refine size_of ?_) | (with_reducible refine Nat.le_succ_of_le ?_) | go_size)))) (HK.out.keep (by (repeat' (first | (with_reducible exact Below.refl _ _) | (with_reducible assumption) | (with_reducible refine Below.next ?_ (by with_reducible assumption)) | (with_reducible refine Below.drew ?_) | (with_reducible refine Below.laid ?_ _) | (with_reducible refine Below.setCell ?_ ?_ _) | (with_reducible refine size_of ?_) | (with_reducible refine Nat.le_succ_of_le ?_) | go_size))))).mono ?_; rintro e w1 ⟨rfl, hb1⟩; rw [HX.out])
    go_ret
    exact ⟨rfl, by (repeat' (first | (with_reducible exact Below.refl _ _) | (with_reducible assumption) | (with_reducible refine Below.next ?_ (by with_reducible assumption)) | (with_reducible refine Below.drew ?_) | (with_reducible refine Below.laid ?_ _) | (with_reducible refine Below.setCell ?_ ?_ _) | (with_reducible refine size_of ?_) | (with_reducible refine Nat.le_succ_of_le ?_) | go_size))⟩

set_option maxHeartbeats 4000000 in
set_option maxRecDepth 100000 in
theorem ask_what (v sa sc : Value) (ls : List Venn.Form) (l : List Venn.Atom) (c : List Int) (u : Int) (w : World) (hl : IsForms w v ls) (ha : IsAtoms w sa l) (hc : IsInts w sc c) (hk : KindsOk w)
    (hok : ∀ f ∈ ls, Venn.formChk f = 0) (hf : Venn.formChk ⟨l, c⟩ = 0) (hu : Venn.things u = true) :
    Calls Tryz.prog 35 #[v, .agg #[sa, sc], .int .i64 u] w (Keeps (.tuple #[.int .i64 (Venn.yesOf ls ⟨l, c⟩ (Venn.allC u) : Nat), .int .i64 (Venn.noOf ls ⟨l, c⟩ (Venn.allC u) : Nat)]) w) := by
  obtain ⟨L, cL, rfl, hrl⟩ := hl
  have HL := Lib.hid (show IsForms w (.slice L ls.length cL) ls from ⟨L, cL, rfl, hrl⟩)
  obtain ⟨A, cA, rfl⟩ := ha.slice
  obtain ⟨C, cC, rfl⟩ := hc.slice
  have HA := Lib.hid ha
  have HC := Lib.hid hc
  have HK := Lib.hid hk
  have HOK := Lib.hid hok
  have HF := Lib.hid hf
  have HU := Lib.hid hu
  have hlen : (Venn.allC u).length ≤ 2000 := by
    simp only [Venn.things, Bool.and_eq_true, decide_eq_true_eq] at hu
    have : ∀ U : Fin 7, (Venn.allG 7 U.val).length ≤ 2000 := by decide +kernel
    exact this ⟨u.toNat, by omega⟩
  obtain ⟨E, hE⟩ : ∃ E, E = Value.tuple #[.int .i64 (Venn.yesOf ls ⟨l, c⟩ (Venn.allC u) : Nat), .int .i64 (Venn.noOf ls ⟨l, c⟩ (Venn.allC u) : Nat)] := ⟨_, rfl⟩
  have HE := Lib.hid hE
  rw [← hE]
  clear hrl ha hc hk hok hf hu hE
  refine (callsIn_wide (n := 4)).1 ?_
  refine callsIn_of_wp_marks Tryz.func35 rfl trivial ?_ rfl
  simp only [Tryz.ntmps35, List.size_toArray, List.length_cons, List.length_nil, Nat.reduceAdd, Nat.reduceSub, Array.replicate_succ, Array.replicate_zero, List.push_toArray, List.append_toArray, List.nil_append, List.cons_append]
  gi_wp2_with (refine ⟨trivial, ?_⟩; gi_at_call 50; refine (callsIn_wide.2 (fit_All u _)).mono ?_; rintro e w' ⟨rfl, rfl⟩)
  have B0 : Blk (((((w.alloc (.cells #[.slice L ls.length cL] 35)).alloc (.cells #[.slice A l.length cA, .slice C c.length cC] 38)).alloc (.cells #[.int .i64 0] 3)).alloc (.cells #[.int .i64 0] 3)).alloc (.cells #[.int .i64 u] 3)) w.heap.size 35 #[.slice L ls.length cL] := ((((Blk.new _ _ _).alloc _).alloc _).alloc _).alloc _
  have B1 : Blk (((((w.alloc (.cells #[.slice L ls.length cL] 35)).alloc (.cells #[.slice A l.length cA, .slice C c.length cC] 38)).alloc (.cells #[.int .i64 0] 3)).alloc (.cells #[.int .i64 0] 3)).alloc (.cells #[.int .i64 u] 3)) (w.heap.size + 1) 38 #[.slice A l.length cA, .slice C c.length cC] := (((Blk.newAt (by simp) _ _).alloc _).alloc _).alloc _
  have B2 : Blk (((((w.alloc (.cells #[.slice L ls.length cL] 35)).alloc (.cells #[.slice A l.length cA, .slice C c.length cC] 38)).alloc (.cells #[.int .i64 0] 3)).alloc (.cells #[.int .i64 0] 3)).alloc (.cells #[.int .i64 u] 3)) (w.heap.size + 1 + 1) 3 #[.int .i64 0] := ((Blk.newAt (by simp) _ _).alloc _).alloc _
  have B3 : Blk (((((w.alloc (.cells #[.slice L ls.length cL] 35)).alloc (.cells #[.slice A l.length cA, .slice C c.length cC] 38)).alloc (.cells #[.int .i64 0] 3)).alloc (.cells #[.int .i64 0] 3)).alloc (.cells #[.int .i64 u] 3)) (w.heap.size + 1 + 1 + 1) 3 #[.int .i64 0] := (Blk.newAt (by simp) _ _).alloc _
  have B4 : Blk (((((w.alloc (.cells #[.slice L ls.length cL] 35)).alloc (.cells #[.slice A l.length cA, .slice C c.length cC] 38)).alloc (.cells #[.int .i64 0] 3)).alloc (.cells #[.int .i64 0] 3)).alloc (.cells #[.int .i64 u] 3)) (w.heap.size + 1 + 1 + 1 + 1) 3 #[.int .i64 u] := Blk.newAt (by simp) _ _
  have hbW : Below w.heap.size w (((((w.alloc (.cells #[.slice L ls.length cL] 35)).alloc (.cells #[.slice A l.length cA, .slice C c.length cC] 38)).alloc (.cells #[.int .i64 0] 3)).alloc (.cells #[.int .i64 0] 3)).alloc (.cells #[.int .i64 u] 3)) := by (repeat' (first | (with_reducible exact Below.refl _ _) | (with_reducible assumption) | (with_reducible refine Below.next ?_ (by with_reducible assumption)) | (with_reducible refine Below.drew ?_) | (with_reducible refine Below.laid ?_ _) | (with_reducible refine Below.setCell ?_ ?_ _) | (with_reducible refine size_of ?_) | (with_reducible refine Nat.le_succ_of_le ?_) | go_size))
  have hsz : (((((w.alloc (.cells #[.slice L ls.length cL] 35)).alloc (.cells #[.slice A l.length cA, .slice C c.length cC] 38)).alloc (.cells #[.int .i64 0] 3)).alloc (.cells #[.int .i64 0] 3)).alloc (.cells #[.int .i64 u] 3)).heap.size = w.heap.size + 5 := by simp
  generalize (((((w.alloc (.cells #[.slice L ls.length cL] 35)).alloc (.cells #[.slice A l.length cA, .slice C c.length cC] 38)).alloc (.cells #[.int .i64 0] 3)).alloc (.cells #[.int .i64 0] 3)).alloc (.cells #[.int .i64 u] 3)) = W0 at B0 B1 B2 B3 B4 hbW hsz ⊢
  have hC : ∀ b, (b = w.heap.size + 1 + 1 ∨ b = w.heap.size + 1 + 1 + 1) → w.heap.size ≤ b := by omega
  refine wpIn_rangeAll2 u HU.out (w.heap.size + 1 + 1 + 1 + 1) rfl (B4.cell 0) rfl (fun b => b = w.heap.size + 1 + 1 ∨ b = w.heap.size + 1 + 1 + 1) (by intro b hb; omega)
    (fun pre W => Blk W (w.heap.size + 1 + 1) 3 #[.int .i64 (Venn.yesOf ls ⟨l, c⟩ pre : Nat)] ∧ Blk W (w.heap.size + 1 + 1 + 1) 3 #[.int .i64 (Venn.noOf ls ⟨l, c⟩ pre : Nat)]) (fun _ _ _ => False)
    (by rintro s X Y hb ⟨h1, h2⟩; exact ⟨h1.below hb (by omega), h2.below hb (by omega)⟩) (by rintro c s X Y hb h; exact h) ⟨B2, B3⟩ ?round ?done ?stop
  case round =>
    intro lo pre x rest W hxs
    have hm : x ∈ Venn.allC u := by rw [hxs]; simp
    have HWR := Lib.hid (Venn.made_allC HU.out hm)
    have hyn := Venn.yesno_le ls ⟨l, c⟩ pre
    have hpl : pre.length ≤ 2000 := by have := hlen; rw [hxs] at this; simp at this; omega
    have hpar := (Venn.mem_allC HU.out x).1 hm
    have hs6 : x.sum ≤ 6 := by rw [hpar.2.2]; have := HU.out; simp only [Venn.things, Bool.and_eq_true, decide_eq_true_eq] at this; exact this.2
    obtain ⟨a0, a1, a2, a3, a4, a5, a6, a7, rfl, _⟩ := Venn.of_allC HU.out hm
    obtain ⟨M, hM⟩ : ∃ M, Venn.made [a0, a1, a2, a3, a4, a5, a6, a7] = M := ⟨_, rfl⟩
    have HMD := Lib.hid (fun W => fields_Made a0 a1 a2 a3 a4 a5 a6 a7 W hpar.2.1 hs6)
    have HSY := Lib.hid (Venn.yes_snoc ls ⟨l, c⟩ pre [a0, a1, a2, a3, a4, a5, a6, a7])
    have HSN := Lib.hid (Venn.no_snoc ls ⟨l, c⟩ pre [a0, a1, a2, a3, a4, a5, a6, a7])
    rw [hM] at HMD HSN HSY HWR
    obtain ⟨mt, ma, mb, mc⟩ := M
    replace HWR := Lib.hid HWR.out.1
    clear hm hxs hpar hs6 hM
    unfold cntV
    gi_wp2
    try refine ⟨rfl, ?_⟩
    rintro W2 hbut hY hN hX hBx
    have hbw2 := hbW.trans (hbut.below (show w.heap.size ≤ W0.heap.size by omega) hC)
    have HAW := Lib.hid (HA.out.keep hbw2)
    have HCW := Lib.hid (HC.out.keep hbw2)
    have HKW := Lib.hid (HK.out.keep hbw2)
    have HLW := Lib.hid (HL.out.keep hbw2)
    have BL := B0.but hbut (by omega)
    have BF := B1.but hbut (by omega)
    try simp only [List.map] at hX
    obtain ⟨⟨c0, c1, c2, c3, c4, c5, c6, c7⟩, _⟩ := hX.cells8
    have hd1 : 1 ≤ 2 := by decide
    generalize Venn.yesOf ls ⟨l, c⟩ pre = Y at HSY hyn hY
    generalize Venn.noOf ls ⟨l, c⟩ pre = N at HSN hyn hN
    cases hso : Venn.formsTrue ls ⟨mt, ma, mb, mc⟩
    · have HS := Lib.hid hso
      have HNY := Lib.hid (show Venn.yesOf ls ⟨l, c⟩ (pre ++ [[a0, a1, a2, a3, a4, a5, a6, a7]]) = Y by rw [HSY.out, hso]; rfl)
      have HNN := Lib.hid (show Venn.noOf ls ⟨l, c⟩ (pre ++ [[a0, a1, a2, a3, a4, a5, a6, a7]]) = N by rw [HSN.out, hso]; rfl)
      clear hso
      gi_wp2_with (first
        | (refine ⟨trivial, ?_⟩; gi_at_call 41; refine (CallsIn.inRound lo (callsIn_wide.2 (HMD.out _))).mono ?_; rintro e W3 ⟨rfl, hb3⟩; have BL3 := BL.keep hb3; have BF3 := BF.keep hb3; have Y3 := hY.keep hb3; have N3 := hN.keep hb3; have k0 := BL3.cell 0; have hl3 := BL3.lt)
        | (refine ⟨trivial, ?_⟩; gi_at_call 51; refine (CallsIn.inRound lo (callsIn_wide.2 (core_So _ ls _ _ _ _ _ (HLW.out.keep (by (repeat' (first | (with_reducible exact Below.refl _ _) | (with_reducible assumption) | (with_reducible refine Below.next ?_ (by with_reducible assumption)) | (with_reducible refine Below.drew ?_) | (with_reducible refine Below.laid ?_ _) | (with_reducible refine Below.setCell ?_ ?_ _) | (with_reducible refine size_of ?_) | (with_reducible refine Nat.le_succ_of_le ?_) | go_size)))) (HKW.out.keep (by (repeat' (first | (with_reducible exact Below.refl _ _) | (with_reducible assumption) | (with_reducible refine Below.next ?_ (by with_reducible assumption)) | (with_reducible refine Below.drew ?_) | (with_reducible refine Below.laid ?_ _) | (with_reducible refine Below.setCell ?_ ?_ _) | (with_reducible refine size_of ?_) | (with_reducible refine Nat.le_succ_of_le ?_) | go_size)))) HOK.out HWR.out))).mono ?_; rintro e W4 ⟨rfl, hb4⟩; rw [HS.out]; have BW4 := (Blk.new W3 45 #[.int .i64 mt, .int .i64 ma, .int .i64 mb, .int .i64 mc]).keep hb4; have BF4 := (BF3.alloc _).keep hb4; have Y4 := (Y3.alloc _).keep hb4; have N4 := (N3.alloc _).keep hb4; obtain ⟨e0, e1, e2, e3⟩ := BW4.cells4; obtain ⟨k1, k2⟩ := BF4.cells2.1))
      refine ⟨But.of_below (show Below W2.heap.size W2 W4 by (repeat' (first | (with_reducible exact Below.refl _ _) | (with_reducible assumption) | (with_reducible refine Below.next ?_ (by with_reducible assumption)) | (with_reducible refine Below.drew ?_) | (with_reducible refine Below.laid ?_ _) | (with_reducible refine Below.setCell ?_ ?_ _) | (with_reducible refine size_of ?_) | (with_reducible refine Nat.le_succ_of_le ?_) | go_size))), ?_⟩
      show Blk _ _ _ #[.int .i64 (Venn.yesOf ls ⟨l, c⟩ (pre ++ [[a0, a1, a2, a3, a4, a5, a6, a7]]) : Nat)] ∧ Blk _ _ _ #[.int .i64 (Venn.noOf ls ⟨l, c⟩ (pre ++ [[a0, a1, a2, a3, a4, a5, a6, a7]]) : Nat)]
      rw [HNY.out, HNN.out]
      exact ⟨Y4, N4⟩
    · have HS := Lib.hid hso
      cases hto : Venn.formTrue ⟨l, c⟩ ⟨mt, ma, mb, mc⟩
      · have HT := Lib.hid hto
        have HNY := Lib.hid (show Venn.yesOf ls ⟨l, c⟩ (pre ++ [[a0, a1, a2, a3, a4, a5, a6, a7]]) = Y by rw [HSY.out, hso, hto]; rfl)
        have HNN := Lib.hid (show Venn.noOf ls ⟨l, c⟩ (pre ++ [[a0, a1, a2, a3, a4, a5, a6, a7]]) = N + 1 by rw [HSN.out, hso, hto]; rfl)
        have hwr : IntKind.i64.wrap ((N : Int) + 1) = (N : Int) + 1 := IntWalk.i64_in _ (by omega)
        clear hso hto
        gi_wp2_with (first
          | (refine ⟨trivial, ?_⟩; gi_at_call 41; refine (CallsIn.inRound lo (callsIn_wide.2 (HMD.out _))).mono ?_; rintro e W3 ⟨rfl, hb3⟩; have BL3 := BL.keep hb3; have BF3 := BF.keep hb3; have Y3 := hY.keep hb3; have N3 := hN.keep hb3; have k0 := BL3.cell 0; have hl3 := BL3.lt)
          | (refine ⟨trivial, ?_⟩; gi_at_call 51; refine (CallsIn.inRound lo (callsIn_wide.2 (core_So _ ls _ _ _ _ _ (HLW.out.keep (by (repeat' (first | (with_reducible exact Below.refl _ _) | (with_reducible assumption) | (with_reducible refine Below.next ?_ (by with_reducible assumption)) | (with_reducible refine Below.drew ?_) | (with_reducible refine Below.laid ?_ _) | (with_reducible refine Below.setCell ?_ ?_ _) | (with_reducible refine size_of ?_) | (with_reducible refine Nat.le_succ_of_le ?_) | go_size)))) (HKW.out.keep (by (repeat' (first | (with_reducible exact Below.refl _ _) | (with_reducible assumption) | (with_reducible refine Below.next ?_ (by with_reducible assumption)) | (with_reducible refine Below.drew ?_) | (with_reducible refine Below.laid ?_ _) | (with_reducible refine Below.setCell ?_ ?_ _) | (with_reducible refine size_of ?_) | (with_reducible refine Nat.le_succ_of_le ?_) | go_size)))) HOK.out HWR.out))).mono ?_; rintro e W4 ⟨rfl, hb4⟩; rw [HS.out]; have BW4 := (Blk.new W3 45 #[.int .i64 mt, .int .i64 ma, .int .i64 mb, .int .i64 mc]).keep hb4; have BF4 := (BF3.alloc _).keep hb4; have Y4 := (Y3.alloc _).keep hb4; have N4 := (N3.alloc _).keep hb4; obtain ⟨e0, e1, e2, e3⟩ := BW4.cells4; obtain ⟨k1, k2⟩ := BF4.cells2.1)
          | (refine ⟨trivial, ?_⟩; gi_at_call 44; refine (CallsIn.inRound lo (callsIn_wide.2 (form_True _ _ l c _ _ _ _ _ (HAW.out.keep (by (repeat' (first | (with_reducible exact Below.refl _ _) | (with_reducible assumption) | (with_reducible refine Below.next ?_ (by with_reducible assumption)) | (with_reducible refine Below.drew ?_) | (with_reducible refine Below.laid ?_ _) | (with_reducible refine Below.setCell ?_ ?_ _) | (with_reducible refine size_of ?_) | (with_reducible refine Nat.le_succ_of_le ?_) | go_size)))) (HCW.out.keep (by (repeat' (first | (with_reducible exact Below.refl _ _) | (with_reducible assumption) | (with_reducible refine Below.next ?_ (by with_reducible assumption)) | (with_reducible refine Below.drew ?_) | (with_reducible refine Below.laid ?_ _) | (with_reducible refine Below.setCell ?_ ?_ _) | (with_reducible refine size_of ?_) | (with_reducible refine Nat.le_succ_of_le ?_) | go_size)))) (HKW.out.keep (by (repeat' (first | (with_reducible exact Below.refl _ _) | (with_reducible assumption) | (with_reducible refine Below.next ?_ (by with_reducible assumption)) | (with_reducible refine Below.drew ?_) | (with_reducible refine Below.laid ?_ _) | (with_reducible refine Below.setCell ?_ ?_ _) | (with_reducible refine size_of ?_) | (with_reducible refine Nat.le_succ_of_le ?_) | go_size)))) HF.out HWR.out))).mono ?_; rintro e W5 ⟨rfl, hb5⟩; rw [HT.out]; have Y5 := Y4.keep hb5; have N5 := N4.keep hb5; have y5 := Y5.cell 0; have n5 := N5.cell 0; have y6 := Y5.frozen 0; have n6 := N5.frozen 0))
        refine ⟨(But.of_below (C := fun b => b = w.heap.size + 1 + 1 ∨ b = w.heap.size + 1 + 1 + 1) (show Below W2.heap.size W2 W5 by (repeat' (first | (with_reducible exact Below.refl _ _) | (with_reducible assumption) | (with_reducible refine Below.next ?_ (by with_reducible assumption)) | (with_reducible refine Below.drew ?_) | (with_reducible refine Below.laid ?_ _) | (with_reducible refine Below.setCell ?_ ?_ _) | (with_reducible refine size_of ?_) | (with_reducible refine Nat.le_succ_of_le ?_) | go_size)))).set_ (p := ⟨w.heap.size + 1 + 1 + 1, 0, none⟩) (.inr rfl) _, ?_⟩
        show Blk _ _ _ #[.int .i64 (Venn.yesOf ls ⟨l, c⟩ (pre ++ [[a0, a1, a2, a3, a4, a5, a6, a7]]) : Nat)] ∧ Blk _ _ _ #[.int .i64 (Venn.noOf ls ⟨l, c⟩ (pre ++ [[a0, a1, a2, a3, a4, a5, a6, a7]]) : Nat)]
        rw [HNY.out, HNN.out]
        exact ⟨Y5.far (by simp) _, N5.set_ 0 _⟩
      · have HT := Lib.hid hto
        have HNY := Lib.hid (show Venn.yesOf ls ⟨l, c⟩ (pre ++ [[a0, a1, a2, a3, a4, a5, a6, a7]]) = Y + 1 by rw [HSY.out, hso, hto]; rfl)
        have HNN := Lib.hid (show Venn.noOf ls ⟨l, c⟩ (pre ++ [[a0, a1, a2, a3, a4, a5, a6, a7]]) = N by rw [HSN.out, hso, hto]; rfl)
        have hwr : IntKind.i64.wrap ((Y : Int) + 1) = (Y : Int) + 1 := IntWalk.i64_in _ (by omega)
        clear hso hto
        gi_wp2_with (first
          | (refine ⟨trivial, ?_⟩; gi_at_call 41; refine (CallsIn.inRound lo (callsIn_wide.2 (HMD.out _))).mono ?_; rintro e W3 ⟨rfl, hb3⟩; have BL3 := BL.keep hb3; have BF3 := BF.keep hb3; have Y3 := hY.keep hb3; have N3 := hN.keep hb3; have k0 := BL3.cell 0; have hl3 := BL3.lt)
          | (refine ⟨trivial, ?_⟩; gi_at_call 51; refine (CallsIn.inRound lo (callsIn_wide.2 (core_So _ ls _ _ _ _ _ (HLW.out.keep (by (repeat' (first | (with_reducible exact Below.refl _ _) | (with_reducible assumption) | (with_reducible refine Below.next ?_ (by with_reducible assumption)) | (with_reducible refine Below.drew ?_) | (with_reducible refine Below.laid ?_ _) | (with_reducible refine Below.setCell ?_ ?_ _) | (with_reducible refine size_of ?_) | (with_reducible refine Nat.le_succ_of_le ?_) | go_size)))) (HKW.out.keep (by (repeat' (first | (with_reducible exact Below.refl _ _) | (with_reducible assumption) | (with_reducible refine Below.next ?_ (by with_reducible assumption)) | (with_reducible refine Below.drew ?_) | (with_reducible refine Below.laid ?_ _) | (with_reducible refine Below.setCell ?_ ?_ _) | (with_reducible refine size_of ?_) | (with_reducible refine Nat.le_succ_of_le ?_) | go_size)))) HOK.out HWR.out))).mono ?_; rintro e W4 ⟨rfl, hb4⟩; rw [HS.out]; have BW4 := (Blk.new W3 45 #[.int .i64 mt, .int .i64 ma, .int .i64 mb, .int .i64 mc]).keep hb4; have BF4 := (BF3.alloc _).keep hb4; have Y4 := (Y3.alloc _).keep hb4; have N4 := (N3.alloc _).keep hb4; obtain ⟨e0, e1, e2, e3⟩ := BW4.cells4; obtain ⟨k1, k2⟩ := BF4.cells2.1)
          | (refine ⟨trivial, ?_⟩; gi_at_call 44; refine (CallsIn.inRound lo (callsIn_wide.2 (form_True _ _ l c _ _ _ _ _ (HAW.out.keep (by (repeat' (first | (with_reducible exact Below.refl _ _) | (with_reducible assumption) | (with_reducible refine Below.next ?_ (by with_reducible assumption)) | (with_reducible refine Below.drew ?_) | (with_reducible refine Below.laid ?_ _) | (with_reducible refine Below.setCell ?_ ?_ _) | (with_reducible refine size_of ?_) | (with_reducible refine Nat.le_succ_of_le ?_) | go_size)))) (HCW.out.keep (by (repeat' (first | (with_reducible exact Below.refl _ _) | (with_reducible assumption) | (with_reducible refine Below.next ?_ (by with_reducible assumption)) | (with_reducible refine Below.drew ?_) | (with_reducible refine Below.laid ?_ _) | (with_reducible refine Below.setCell ?_ ?_ _) | (with_reducible refine size_of ?_) | (with_reducible refine Nat.le_succ_of_le ?_) | go_size)))) (HKW.out.keep (by (repeat' (first | (with_reducible exact Below.refl _ _) | (with_reducible assumption) | (with_reducible refine Below.next ?_ (by with_reducible assumption)) | (with_reducible refine Below.drew ?_) | (with_reducible refine Below.laid ?_ _) | (with_reducible refine Below.setCell ?_ ?_ _) | (with_reducible refine size_of ?_) | (with_reducible refine Nat.le_succ_of_le ?_) | go_size)))) HF.out HWR.out))).mono ?_; rintro e W5 ⟨rfl, hb5⟩; rw [HT.out]; have Y5 := Y4.keep hb5; have N5 := N4.keep hb5; have y5 := Y5.cell 0; have n5 := N5.cell 0; have y6 := Y5.frozen 0; have n6 := N5.frozen 0))
        refine ⟨(But.of_below (C := fun b => b = w.heap.size + 1 + 1 ∨ b = w.heap.size + 1 + 1 + 1) (show Below W2.heap.size W2 W5 by (repeat' (first | (with_reducible exact Below.refl _ _) | (with_reducible assumption) | (with_reducible refine Below.next ?_ (by with_reducible assumption)) | (with_reducible refine Below.drew ?_) | (with_reducible refine Below.laid ?_ _) | (with_reducible refine Below.setCell ?_ ?_ _) | (with_reducible refine size_of ?_) | (with_reducible refine Nat.le_succ_of_le ?_) | go_size)))).set_ (p := ⟨w.heap.size + 1 + 1, 0, none⟩) (.inl rfl) _, ?_⟩
        show Blk _ _ _ #[.int .i64 (Venn.yesOf ls ⟨l, c⟩ (pre ++ [[a0, a1, a2, a3, a4, a5, a6, a7]]) : Nat)] ∧ Blk _ _ _ #[.int .i64 (Venn.noOf ls ⟨l, c⟩ (pre ++ [[a0, a1, a2, a3, a4, a5, a6, a7]]) : Nat)]
        rw [HNY.out, HNN.out]
        exact ⟨Y5.set_ 0 _, N5.far (by simp) _⟩
  case done =>
    rintro D W hD hbut ⟨hY', hN'⟩ hK
    have hY : Blk W (w.heap.size + 1 + 1) 3 #[.int .i64 (Venn.yesOf ls ⟨l, c⟩ (Venn.allC u) : Nat)] := hY'
    have hN : Blk W (w.heap.size + 1 + 1 + 1) 3 #[.int .i64 (Venn.noOf ls ⟨l, c⟩ (Venn.allC u) : Nat)] := hN'
    clear hY' hN'
    generalize ((Venn.yesOf ls ⟨l, c⟩ (Venn.allC u) : Nat) : Int) = Y at HE hY
    generalize ((Venn.noOf ls ⟨l, c⟩ (Venn.allC u) : Nat) : Int) = N at HE hN
    have G : AskEnd w W (w.heap.size + 1 + 1) D Y N := ⟨hY, hN, hK, hbW.trans (hbut.below (show w.heap.size ≤ W0.heap.size by omega) hC)⟩
    have y0 := hY.cell 0
    have n0 := hN.cell 0
    have y1 := hY.frozen 0
    have n1 := hN.frozen 0
    have hg0 : w.heap.size ≤ w.heap.size + 1 + 1 := by omega
    have hD0 : w.heap.size + 1 + 1 + 1 < D := by omega
    gi_wp2_with fail
    gi_region_with fail
    all_goals
      gi_wp2
      refine ask_leave (g := w.heap.size + 1 + 1) (D := D) ?_ hD0 hg0 rfl (fun Z h6 h7 => by simp [results, Tryz.results35, go_sem, h6, h7]) HE.out
      repeat (first | exact G | refine AskEnd.drew ?_ | refine AskEnd.setY ?_ hg0 hD0 | refine AskEnd.setN ?_ hg0 hD0)
  case stop =>
    rintro D c pre x rest W hD hxs hbut h hK
    exact h.elim

def askVv (ls : List Venn.Form) (f : Venn.Form) (u : Int) : Value := .tuple #[.int .i64 (Venn.askV ls f u), errV (Venn.askErr ls f u)]
set_option maxHeartbeats 1000000 in
theorem ask_Of (v sa sc : Value) (ls : List Venn.Form) (l : List Venn.Atom) (c : List Int) (u : Int) (w : World) (hl : IsForms w v ls) (ha : IsAtoms w sa l) (hc : IsInts w sc c) (hk : KindsOk w) :
    Calls Tryz.prog 12 #[v, .agg #[sa, sc], .int .i64 u] w (Keeps (askVv ls ⟨l, c⟩ u) w) := by
  obtain ⟨L, cL, rfl, hrl⟩ := hl
  have HL := Lib.hid (show IsForms w (.slice L ls.length cL) ls from ⟨L, cL, rfl, hrl⟩)
  obtain ⟨A, cA, rfl⟩ := ha.slice
  obtain ⟨C, cC, rfl⟩ := hc.slice
  have HA := Lib.hid ha
  have HC := Lib.hid hc
  have HK := Lib.hid hk
  clear hrl ha hc hk
  by_cases h1 : ¬ Venn.askChk ls ⟨l, c⟩ u = 0
  · have HX := Lib.hid (errV_ne h1)
    have HV := Lib.hid (show askVv ls ⟨l, c⟩ u = .tuple #[.int .i64 0, .iface 59 (.int .i64 (Venn.askChk ls ⟨l, c⟩ u))] by
      have h2 : Venn.askErr ls ⟨l, c⟩ u = Venn.askChk ls ⟨l, c⟩ u := if_neg h1
      rw [askVv, Venn.askV, if_neg (by rw [h2]; exact h1), h2, errV_ne h1])
    rw [HV.out]
    clear h1
    go_enter Tryz.func12, Tryz.ntmps12
    go_wp2_with (go_at_call 34; refine (ask_check _ _ _ ls l c u _ (HL.out.keep (by (repeat' (first | (with_reducible exact Below.refl _ _) | (with_reducible assumption) | (with_reducible refine Below.next ?_ (by with_reducible assumption)) | (with_reducible refine Below.drew ?_) | (with_reducible refine Below.laid ?_ _) | (with_reducible refine Below.setCell ?_ ?_ _) | (with_reducible refine size_of ?_) | (with_reducible refine Nat.le_succ_of_le ?_) | go_size)))) (HA.out.keep (by (repeat' (first | (with_reducible exact Below.refl _ _) | (with_reducible assumption) | (with_reducible refine Below.next ?_ (by with_reducible assumption)) | (with_reducible refine Below.drew ?_) | (with_reducible refine Below.laid ?_ _) | (with_reducible refine Below.setCell ?_ ?_ _) | (with_reducible refine size_of ?_) | (with_reducible refine Nat.le_succ_of_le ?_) | go_size)))) (HC.out.keep (by (repeat' (first | (with_reducible exact Below.refl _ _) | (with_reducible assumption) | (with_reducible refine Below.next ?_ (by with_reducible assumption)) | (with_reducible refine Below.drew ?_) | (with_reducible refine Below.laid ?_ _) | (with_reducible refine Below.setCell ?_ ?_ _) | (with_reducible refine size_of ?_) | (with_reducible refine Nat.le_succ_of_le ?_) | go_size)))) (HK.out.keep (by (repeat' (first | (with_reducible exact Below.refl _ _) | (with_reducible assumption) | (with_reducible refine Below.next ?_ (by with_reducible assumption)) | (with_reducible refine Below.drew ?_) | (with_reducible refine Below.laid ?_ _) | (with_reducible refine Below.setCell ?_ ?_ _) | (with_reducible refine size_of ?_) | (with_reducible refine Nat.le_succ_of_le ?_) | go_size))))).mono ?_; rintro e w1 ⟨rfl, hb1⟩; rw [HX.out])
    go_ret2
    exact ⟨rfl, by (repeat' (first | (with_reducible exact Below.refl _ _) | (with_reducible assumption) | (with_reducible refine Below.next ?_ (by with_reducible assumption)) | (with_reducible refine Below.drew ?_) | (with_reducible refine Below.laid ?_ _) | (with_reducible refine Below.setCell ?_ ?_ _) | (with_reducible refine size_of ?_) | (with_reducible refine Nat.le_succ_of_le ?_) | go_size))⟩
  replace h1 := Decidable.not_not.1 h1
  have hcore : Venn.coreChk ls u = 0 ∧ Venn.formChk ⟨l, c⟩ = 0 := by
    unfold Venn.askChk at h1
    split at h1
    · exact ⟨by assumption, h1⟩
    · contradiction
  obtain ⟨hc1, hf⟩ := hcore
  obtain ⟨_, _, hc2, hu⟩ := Venn.coreChk_parts hc1
  have HX := Lib.hid (errV_zero h1)
  have HF := Lib.hid hf
  have HU := Lib.hid hu
  have HOK := Lib.hid (Venn.formsChk_mem hc2)
  have hlen : (Venn.allC u).length ≤ 2000 := by
    simp only [Venn.things, Bool.and_eq_true, decide_eq_true_eq] at hu
    have : ∀ U : Fin 7, (Venn.allG 7 U.val).length ≤ 2000 := by decide +kernel
    exact this ⟨u.toNat, by omega⟩
  have hyn := Venn.yesno_le ls ⟨l, c⟩ (Venn.allC u)
  have HG := Lib.hid (show askVv ls ⟨l, c⟩ u = if Venn.yesOf ls ⟨l, c⟩ (Venn.allC u) + Venn.noOf ls ⟨l, c⟩ (Venn.allC u) = 0 then .tuple #[.int .i64 0, .iface 59 (.int .i64 6)] else .tuple #[.int .i64 (Venn.answer (Venn.yesOf ls ⟨l, c⟩ (Venn.allC u)) (Venn.noOf ls ⟨l, c⟩ (Venn.allC u))), .nilIface] by
    rw [askVv, Venn.askV, Venn.askErr, if_pos h1]
    split
    · rw [if_neg (by decide)]; rfl
    · rw [if_pos rfl]; rfl)
  have HWH := Lib.hid (fun W h1 h2 h3 h4 => ask_what (.slice L ls.length cL) (.slice A l.length cA) (.slice C c.length cC) ls l c u W h1 h2 h3 h4 HOK.out HF.out HU.out)
  clear h1 hf hu hc1 hc2
  generalize askVv ls ⟨l, c⟩ u = R at HG ⊢
  generalize Venn.yesOf ls ⟨l, c⟩ (Venn.allC u) = Y at HG HWH hyn
  generalize Venn.noOf ls ⟨l, c⟩ (Venn.allC u) = N at HG HWH hyn
  have hwr : IntKind.i64.wrap ((Y : Int) + (N : Int)) = (Y : Int) + (N : Int) := IntWalk.i64_in _ (by omega)
  by_cases hz : Y + N = 0
  · have HV := Lib.hid (HG.out.trans (if_pos hz))
    have e1 : ((Y : Int) + (N : Int) == 0) = true := beq_iff_eq.2 (by omega)
    clear hz
    go_enter Tryz.func12, Tryz.ntmps12
    go_wp2_with (first
      | (go_at_call 34; refine (ask_check _ _ _ ls l c u _ (HL.out.keep (by (repeat' (first | (with_reducible exact Below.refl _ _) | (with_reducible assumption) | (with_reducible refine Below.next ?_ (by with_reducible assumption)) | (with_reducible refine Below.drew ?_) | (with_reducible refine Below.laid ?_ _) | (with_reducible refine Below.setCell ?_ ?_ _) | (with_reducible refine size_of ?_) | (with_reducible refine Nat.le_succ_of_le ?_) | go_size)))) (HA.out.keep (by (repeat' (first | (with_reducible exact Below.refl _ _) | (with_reducible assumption) | (with_reducible refine Below.next ?_ (by with_reducible assumption)) | (with_reducible refine Below.drew ?_) | (with_reducible refine Below.laid ?_ _) | (with_reducible refine Below.setCell ?_ ?_ _) | (with_reducible refine size_of ?_) | (with_reducible refine Nat.le_succ_of_le ?_) | go_size)))) (HC.out.keep (by (repeat' (first | (with_reducible exact Below.refl _ _) | (with_reducible assumption) | (with_reducible refine Below.next ?_ (by with_reducible assumption)) | (with_reducible refine Below.drew ?_) | (with_reducible refine Below.laid ?_ _) | (with_reducible refine Below.setCell ?_ ?_ _) | (with_reducible refine size_of ?_) | (with_reducible refine Nat.le_succ_of_le ?_) | go_size)))) (HK.out.keep (by (repeat' (first | (with_reducible exact Below.refl _ _) | (with_reducible assumption) | (with_reducible refine Below.next ?_ (by with_reducible assumption)) | (with_reducible refine Below.drew ?_) | (with_reducible refine Below.laid ?_ _) | (with_reducible refine Below.setCell ?_ ?_ _) | (with_reducible refine size_of ?_) | (with_reducible refine Nat.le_succ_of_le ?_) | go_size))))).mono ?_; rintro e w1 ⟨rfl, hb1⟩; rw [HX.out]; have BF := (Blk.new w 38 #[.slice A l.length cA, .slice C c.length cC]).keep hb1; obtain ⟨k0, k1⟩ := BF.cells2.1)
      | (go_at_call 35; refine (HWH.out _ (HL.out.keep (by (repeat' (first | (with_reducible exact Below.refl _ _) | (with_reducible assumption) | (with_reducible refine Below.next ?_ (by with_reducible assumption)) | (with_reducible refine Below.drew ?_) | (with_reducible refine Below.laid ?_ _) | (with_reducible refine Below.setCell ?_ ?_ _) | (with_reducible refine size_of ?_) | (with_reducible refine Nat.le_succ_of_le ?_) | go_size)))) (HA.out.keep (by (repeat' (first | (with_reducible exact Below.refl _ _) | (with_reducible assumption) | (with_reducible refine Below.next ?_ (by with_reducible assumption)) | (with_reducible refine Below.drew ?_) | (with_reducible refine Below.laid ?_ _) | (with_reducible refine Below.setCell ?_ ?_ _) | (with_reducible refine size_of ?_) | (with_reducible refine Nat.le_succ_of_le ?_) | go_size)))) (HC.out.keep (by (repeat' (first | (with_reducible exact Below.refl _ _) | (with_reducible assumption) | (with_reducible refine Below.next ?_ (by with_reducible assumption)) | (with_reducible refine Below.drew ?_) | (with_reducible refine Below.laid ?_ _) | (with_reducible refine Below.setCell ?_ ?_ _) | (with_reducible refine size_of ?_) | (with_reducible refine Nat.le_succ_of_le ?_) | go_size)))) (HK.out.keep (by (repeat' (first | (with_reducible exact Below.refl _ _) | (with_reducible assumption) | (with_reducible refine Below.next ?_ (by with_reducible assumption)) | (with_reducible refine Below.drew ?_) | (with_reducible refine Below.laid ?_ _) | (with_reducible refine Below.setCell ?_ ?_ _) | (with_reducible refine size_of ?_) | (with_reducible refine Nat.le_succ_of_le ?_) | go_size))))).mono ?_; rintro e w2 ⟨rfl, hb2⟩))
    go_ret2
    exact ⟨congrArg Ending.returned HV.out.symm, by (repeat' (first | (with_reducible exact Below.refl _ _) | (with_reducible assumption) | (with_reducible refine Below.next ?_ (by with_reducible assumption)) | (with_reducible refine Below.drew ?_) | (with_reducible refine Below.laid ?_ _) | (with_reducible refine Below.setCell ?_ ?_ _) | (with_reducible refine size_of ?_) | (with_reducible refine Nat.le_succ_of_le ?_) | go_size))⟩
  · have HV := Lib.hid (HG.out.trans (if_neg hz))
    have e1 : ((Y : Int) + (N : Int) == 0) = false := beq_eq_false_iff_ne.2 (by omega)
    clear hz
    go_enter Tryz.func12, Tryz.ntmps12
    go_wp2_with (first
      | (go_at_call 34; refine (ask_check _ _ _ ls l c u _ (HL.out.keep (by (repeat' (first | (with_reducible exact Below.refl _ _) | (with_reducible assumption) | (with_reducible refine Below.next ?_ (by with_reducible assumption)) | (with_reducible refine Below.drew ?_) | (with_reducible refine Below.laid ?_ _) | (with_reducible refine Below.setCell ?_ ?_ _) | (with_reducible refine size_of ?_) | (with_reducible refine Nat.le_succ_of_le ?_) | go_size)))) (HA.out.keep (by (repeat' (first | (with_reducible exact Below.refl _ _) | (with_reducible assumption) | (with_reducible refine Below.next ?_ (by with_reducible assumption)) | (with_reducible refine Below.drew ?_) | (with_reducible refine Below.laid ?_ _) | (with_reducible refine Below.setCell ?_ ?_ _) | (with_reducible refine size_of ?_) | (with_reducible refine Nat.le_succ_of_le ?_) | go_size)))) (HC.out.keep (by (repeat' (first | (with_reducible exact Below.refl _ _) | (with_reducible assumption) | (with_reducible refine Below.next ?_ (by with_reducible assumption)) | (with_reducible refine Below.drew ?_) | (with_reducible refine Below.laid ?_ _) | (with_reducible refine Below.setCell ?_ ?_ _) | (with_reducible refine size_of ?_) | (with_reducible refine Nat.le_succ_of_le ?_) | go_size)))) (HK.out.keep (by (repeat' (first | (with_reducible exact Below.refl _ _) | (with_reducible assumption) | (with_reducible refine Below.next ?_ (by with_reducible assumption)) | (with_reducible refine Below.drew ?_) | (with_reducible refine Below.laid ?_ _) | (with_reducible refine Below.setCell ?_ ?_ _) | (with_reducible refine size_of ?_) | (with_reducible refine Nat.le_succ_of_le ?_) | go_size))))).mono ?_; rintro e w1 ⟨rfl, hb1⟩; rw [HX.out]; have BF := (Blk.new w 38 #[.slice A l.length cA, .slice C c.length cC]).keep hb1; obtain ⟨k0, k1⟩ := BF.cells2.1)
      | (go_at_call 35; refine (HWH.out _ (HL.out.keep (by (repeat' (first | (with_reducible exact Below.refl _ _) | (with_reducible assumption) | (with_reducible refine Below.next ?_ (by with_reducible assumption)) | (with_reducible refine Below.drew ?_) | (with_reducible refine Below.laid ?_ _) | (with_reducible refine Below.setCell ?_ ?_ _) | (with_reducible refine size_of ?_) | (with_reducible refine Nat.le_succ_of_le ?_) | go_size)))) (HA.out.keep (by (repeat' (first | (with_reducible exact Below.refl _ _) | (with_reducible assumption) | (with_reducible refine Below.next ?_ (by with_reducible assumption)) | (with_reducible refine Below.drew ?_) | (with_reducible refine Below.laid ?_ _) | (with_reducible refine Below.setCell ?_ ?_ _) | (with_reducible refine size_of ?_) | (with_reducible refine Nat.le_succ_of_le ?_) | go_size)))) (HC.out.keep (by (repeat' (first | (with_reducible exact Below.refl _ _) | (with_reducible assumption) | (with_reducible refine Below.next ?_ (by with_reducible assumption)) | (with_reducible refine Below.drew ?_) | (with_reducible refine Below.laid ?_ _) | (with_reducible refine Below.setCell ?_ ?_ _) | (with_reducible refine size_of ?_) | (with_reducible refine Nat.le_succ_of_le ?_) | go_size)))) (HK.out.keep (by (repeat' (first | (with_reducible exact Below.refl _ _) | (with_reducible assumption) | (with_reducible refine Below.next ?_ (by with_reducible assumption)) | (with_reducible refine Below.drew ?_) | (with_reducible refine Below.laid ?_ _) | (with_reducible refine Below.setCell ?_ ?_ _) | (with_reducible refine size_of ?_) | (with_reducible refine Nat.le_succ_of_le ?_) | go_size))))).mono ?_; rintro e w2 ⟨rfl, hb2⟩)
      | (go_at_call 36; refine (ask_answer _ _ _).mono ?_; rintro e w' ⟨rfl, rfl⟩))
    go_ret2
    exact ⟨congrArg Ending.returned HV.out.symm, by (repeat' (first | (with_reducible exact Below.refl _ _) | (with_reducible assumption) | (with_reducible refine Below.next ?_ (by with_reducible assumption)) | (with_reducible refine Below.drew ?_) | (with_reducible refine Below.laid ?_ _) | (with_reducible refine Below.setCell ?_ ?_ _) | (with_reducible refine size_of ?_) | (with_reducible refine Nat.le_succ_of_le ?_) | go_size))⟩
end Go.Proofs.YtjnjgcibhjdmdaaGreatDoor

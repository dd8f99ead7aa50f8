/-
  THE WALKS of atom.Parse and atom.Print.
-/
import Derived.Test.YtcloppcekbdbaaaGreatDoorVennRead
namespace Go.Proofs.YtcloppcekbdbaaaGreatDoor
open Go.RowKit Go.ChangeShapes

def AtomGiven (a : Venn.Atom) (e : Int) (w : World) (x : Ending) (w' : World) : Prop :=
  ∃ A n c A' n' c', x = .returned (.tuple #[.agg #[.int .i64 a.what, .slice A n c, .slice A' n' c', .int .i64 a.n], errV e]) ∧ Below w.heap.size w w' ∧ IsInts w' (.slice A n c) a.s ∧ IsInts w' (.slice A' n' c') a.t
/-- A row elsewhere stays behind four stores. -/
theorem ints_res {w : World} {g : Nat} {A : Option Addr} {n c : Nat} {l : List Int} (h : IsInts w (.slice A n c) l) (hf : ∀ ad, A = some ad → ad.block ≠ g) (x0 x1 x2 x3 : Value) : IsInts ((((w.setCell ⟨g, 0, none⟩ x0).setCell ⟨g, 1, none⟩ x1).setCell ⟨g, 2, none⟩ x2).setCell ⟨g, 3, none⟩ x3) (.slice A n c) l := by
  have one : ∀ {w : World} (i : Nat) (x : Value), IsInts w (.slice A n c) l → IsInts (w.setCell ⟨g, i, none⟩ x) (.slice A n c) l := by
    intro w i x h
    obtain ⟨A', c', hv, hr, hc⟩ := h
    injection hv with e1 e2 e3
    subst e1 e2 e3
    refine ⟨A, c, rfl, fun j u hj => ?_, hc⟩
    obtain ⟨ad, e0, hcell⟩ := hr j u hj
    refine ⟨ad, e0, ?_⟩
    rw [World.cell?_setCell_far _ ⟨g, i, none⟩ _ _ (by rw [block_of_add]; exact fun e => hf ad e0 e.symm)]
    exact hcell
  exact one 3 x3 (one 2 x2 (one 1 x1 (one 0 x0 h)))
/-- .. its rows behind w. -/
def AtomGivenF (a : Venn.Atom) (e : Int) (w : World) (x : Ending) (w' : World) : Prop :=
  ∃ A n c A' n' c', x = .returned (.tuple #[.agg #[.int .i64 a.what, .slice A n c, .slice A' n' c', .int .i64 a.n], errV e]) ∧ Below w.heap.size w w' ∧ IsInts w' (.slice A n c) a.s ∧ IsInts w' (.slice A' n' c') a.t ∧ FreshV w (.slice A n c) ∧ FreshV w (.slice A' n' c')
theorem fresh_none (w : World) (n c : Nat) : FreshV w (.slice none n c) := fun _ _ _ e => by cases e
set_option maxHeartbeats 4000000 in
set_option maxRecDepth 100000 in
theorem atom_ParseF (s : ByteArray) (w : World) (hs : s.size < 4294967281) (hk : KindsOk w) (ht : TabOk w) (he : ErrsOk w) (hm : MaxOk w) :
    Calls Tryz.prog 42 #[.string s] w (AtomGivenF (parseAV (readA (wordsOf s))) (parseAChk (readA (wordsOf s))) w) := by
  have HRD := Lib.hid (fun W (hW : Below w.heap.size w W) => atom_Read s W hs (hk.keep hW) (ht.keep hW) (he.keep hW) (hm.keep hW))
  have HKI := Lib.hid hk
  have hal0 : Below w.heap.size w (w.alloc (.cells #[.int .i64 0, .slice none 0 0, .slice none 0 0, .int .i64 0] 32)) := by (repeat' (first | (with_reducible exact Below.refl _ _) | (with_reducible assumption) | (with_reducible refine Below.next ?_ (by with_reducible assumption)) | (with_reducible refine Below.drew ?_) | (with_reducible refine Below.laid ?_ _) | (with_reducible refine Below.setCell ?_ ?_ _) | (with_reducible refine size_of ?_) | (with_reducible refine Nat.le_succ_of_le ?_) | go_size))
  have BR0 := Lib.hid (Blk.new w 32 #[.int .i64 0, .slice none 0 0, .slice none 0 0, .int .i64 0])
  generalize readA (wordsOf s) = o at HRD ⊢
  clear hs hk ht he hm
  go_enter Tryz.func42, Tryz.ntmps42
  go_upto_region 1 with (fail)
  revert hal0 BR0
  generalize w.alloc (.cells #[.int .i64 0, .slice none 0 0, .slice none 0 0, .int .i64 0] 32) = w0
  intro hal0 BR0
  have HB0 := Lib.hid hal0
  have BR0l := Lib.hid BR0.out.lt
  clear hal0
  go_wp2_with fail
  refine (HRD.out w0 HB0.out).mono ?_
  rintro e w1 ⟨x, A, n, c, A', n', c', m, rfl, hb1, hv⟩
  have HV := Lib.hid hv
  have HB1 := Lib.hid (Below.next HB0.out hb1)
  have BR1 := Lib.hid (BR0.out.keep hb1)
  have hb2 : Below w1.heap.size w1 (w1.alloc (.cells #[.int .i64 x, .slice A n c, .slice A' n' c', .int .i64 m] 32)) := (Below.refl _ _).alloc (Nat.le_refl _) _
  have BA := Lib.hid (Blk.new w1 32 #[.int .i64 x, .slice A n c, .slice A' n' c', .int .i64 m])
  clear hv hb1 BR0 HRD
  go_upto_region 2 with (fail)
  revert hb2 BA
  generalize w1.alloc (.cells #[.int .i64 x, .slice A n c, .slice A' n' c', .int .i64 m] 32) = w2
  intro hb2 BA
  have HB2 := Lib.hid (Below.next HB1.out hb2)
  have BR2 := BR1.out.keep hb2
  have HB12 := Lib.hid hb2
  clear hb2 BR1
  cases o with
  | none =>
    obtain ⟨r0, r1, r2, r3⟩ := BR2.cells4
    have s0 := BR2.frozen 0
    have s1 := BR2.frozen 1
    have s2 := BR2.frozen 2
    have s3 := BR2.frozen 3
    have GL := below_set4 HB2.out (Nat.le_refl _) (.int .i64 0) (.slice none 0 0) (.slice none 0 0) (.int .i64 0)
    have GS := BR2.set4 (.int .i64 0) (.slice none 0 0) (.slice none 0 0) (.int .i64 0)
    have hs : (none : Option Venn.Atom).isSome = false := rfl
    rw [hs]
    go_wp2
    clear r0 r1 r2 r3 s0 s1 s2 s3
    revert GL GS
    generalize World.setCell _ _ _ = Wf
    intro GL GS
    obtain ⟨e0, e1, e2, e3⟩ := GS.cells4
    refine bodyPost_ret (v := .tuple #[.agg #[.int .i64 0, .slice none 0 0, .slice none 0 0, .int .i64 0], .iface 92 (.int .i64 2)]) (by simp [results, Tryz.results42, go_sem, e0, e1, e2, e3]) rfl ?_
    exact ⟨none, 0, 0, none, 0, 0, by rw [show parseAChk none = 2 from rfl, errV_ne (by decide)]; rfl, GL, IsInts.empty _, IsInts.empty _, fresh_none _ _ _, fresh_none _ _ _⟩
  | some a =>
    obtain ⟨rfl, rfl, hS, hT, fS, fT⟩ := HV.out a rfl
    obtain ⟨wh, s0, t0, n0⟩ := a
    simp only at hS hT BA BR2 ⊢
    have HS := Lib.hid (hS.keep HB12.out)
    have HT := Lib.hid (hT.keep HB12.out)
    have HFS := Lib.hid (show FreshV w (.slice A n c) from fun ad n c e => Nat.le_trans HB0.out.size (fS ad n c e))
    have HFT := Lib.hid (show FreshV w (.slice A' n' c') from fun ad n c e => Nat.le_trans HB0.out.size (fT ad n c e))
    have FS := Lib.hid (show ∀ ad, A = some ad → ad.block ≠ w.heap.size from fun ad e => by have := fS ad n c (by rw [e]); have := BR0l.out; omega)
    have FT := Lib.hid (show ∀ ad, A' = some ad → ad.block ≠ w.heap.size from fun ad e => by have := fT ad n' c' (by rw [e]); have := BR0l.out; omega)
    have HCH := Lib.hid (fun W (hW : Below w2.heap.size w2 W) => atom_Check wh n0 _ _ s0 t0 W (HS.out.keep hW) (HT.out.keep hW) (HKI.out.keep (Below.next HB2.out hW)))
    clear hS hT HV fS fT
    have hs : (some (⟨wh, s0, t0, n0⟩ : Venn.Atom)).isSome = true := rfl
    rw [hs]
    obtain ⟨a0, a1, a2, a3⟩ := BA.out.cells4
    by_cases hc : Venn.atomChk ⟨wh, s0, t0, n0⟩ = 0
    · rw [hc, errV_zero rfl] at HCH
      have HC := Lib.hid hc
      clear hc
      go_wp2_with fail
      refine (HCH.out _ (Below.refl _ _)).mono ?_
      rintro e w3 ⟨rfl, hb3⟩
      have BA3 := BA.out.keep hb3
      have BR3 := BR2.keep hb3
      have HB3 := Lib.hid (Below.next HB2.out hb3)
      have HS3 := Lib.hid (HS.out.keep hb3)
      have HT3 := Lib.hid (HT.out.keep hb3)
      clear a0 a1 a2 a3
      obtain ⟨a0, a1, a2, a3⟩ := BA3.cells4
      obtain ⟨r0, r1, r2, r3⟩ := BR3.cells4
      have q0 := BR3.frozen 0
      have q1 := BR3.frozen 1
      have q2 := BR3.frozen 2
      have q3 := BR3.frozen 3
      have GL := below_set4 HB3.out (Nat.le_refl _) (.int .i64 wh) (.slice A n c) (.slice A' n' c') (.int .i64 n0)
      have GS := BR3.set4 (.int .i64 wh) (.slice A n c) (.slice A' n' c') (.int .i64 n0)
      have GI := Lib.hid (And.intro (ints_res HS3.out FS.out (.int .i64 wh) (.slice A n c) (.slice A' n' c') (.int .i64 n0)) (ints_res HT3.out FT.out (.int .i64 wh) (.slice A n c) (.slice A' n' c') (.int .i64 n0)))
      go_wp2
      clear a0 a1 a2 a3 r0 r1 r2 r3 q0 q1 q2 q3
      revert GL GS GI
      generalize World.setCell _ _ _ = Wf
      intro GL GS GI
      obtain ⟨e0, e1, e2, e3⟩ := GS.cells4
      refine bodyPost_ret (v := .tuple #[.agg #[.int .i64 wh, .slice A n c, .slice A' n' c', .int .i64 n0], .nilIface]) (by simp [results, Tryz.results42, go_sem, e0, e1, e2, e3]) rfl ?_
      have hv : parseAV (some (⟨wh, s0, t0, n0⟩ : Venn.Atom)) = ⟨wh, s0, t0, n0⟩ := if_pos HC.out
      rw [hv]
      exact ⟨A, n, c, A', n', c', by rw [show parseAChk (some (⟨wh, s0, t0, n0⟩ : Venn.Atom)) = 0 from HC.out, errV_zero rfl], GL, GI.out.1, GI.out.2, HFS.out, HFT.out⟩
    · have HNE := Lib.hid (errV_ne hc)
      rw [HNE.out] at HCH
      have HC := Lib.hid hc
      clear hc
      go_wp2_with fail
      refine (HCH.out _ (Below.refl _ _)).mono ?_
      rintro e w3 ⟨rfl, hb3⟩
      have BR3 := BR2.keep hb3
      have HB3 := Lib.hid (Below.next HB2.out hb3)
      clear a0 a1 a2 a3
      obtain ⟨r0, r1, r2, r3⟩ := BR3.cells4
      have q0 := BR3.frozen 0
      have q1 := BR3.frozen 1
      have q2 := BR3.frozen 2
      have q3 := BR3.frozen 3
      have GL := below_set4 HB3.out (Nat.le_refl _) (.int .i64 0) (.slice none 0 0) (.slice none 0 0) (.int .i64 0)
      have GS := BR3.set4 (.int .i64 0) (.slice none 0 0) (.slice none 0 0) (.int .i64 0)
      go_wp2
      clear r0 r1 r2 r3 q0 q1 q2 q3
      revert GL GS
      generalize World.setCell _ _ _ = Wf
      intro GL GS
      obtain ⟨e0, e1, e2, e3⟩ := GS.cells4
      refine bodyPost_ret (v := .tuple #[.agg #[.int .i64 0, .slice none 0 0, .slice none 0 0, .int .i64 0], .iface 92 (.int .i64 (Venn.atomChk ⟨wh, s0, t0, n0⟩))]) (by simp [results, Tryz.results42, go_sem, e0, e1, e2, e3]) rfl ?_
      have hv : parseAV (some (⟨wh, s0, t0, n0⟩ : Venn.Atom)) = ⟨0, [], [], 0⟩ := if_neg HC.out
      rw [hv]
      exact ⟨none, 0, 0, none, 0, 0, by rw [show parseAChk (some (⟨wh, s0, t0, n0⟩ : Venn.Atom)) = Venn.atomChk ⟨wh, s0, t0, n0⟩ from rfl, HNE.out], GL, IsInts.empty _, IsInts.empty _, fresh_none _ _ _, fresh_none _ _ _⟩
theorem atom_Parse (s : ByteArray) (w : World) (hs : s.size < 4294967281) (hk : KindsOk w) (ht : TabOk w) (he : ErrsOk w) (hm : MaxOk w) :
    Calls Tryz.prog 42 #[.string s] w (AtomGiven (parseAV (readA (wordsOf s))) (parseAChk (readA (wordsOf s))) w) :=
  (atom_ParseF s w hs hk ht he hm).mono fun _ _ ⟨A, n, c, A', n', c', h1, h2, h3, h4, _, _⟩ => ⟨A, n, c, A', n', c', h1, h2, h3, h4⟩
/-- An atom as text, or what is wrong with it. -/
def printAV (a : Venn.Atom) : Value := if Venn.atomChk a = 0 then .tuple #[.string ⟨(textA a).toArray⟩, .nilIface] else .tuple #[.string ⟨#[]⟩, errV (Venn.atomChk a)]
set_option maxHeartbeats 1000000 in
set_option maxRecDepth 100000 in
theorem atom_Print (what n : Int) (sv tv : Value) (s t : List Int) (w : World) (hs : IsInts w sv s) (ht : IsInts w tv t) (hk : KindsOk w) (htab : TabOk w) :
    Calls Tryz.prog 37 #[.agg #[.int .i64 what, sv, tv, .int .i64 n]] w (Keeps (printAV ⟨what, s, t, n⟩) w) := by
  have HCH := Lib.hid (fun W (hW : Below w.heap.size w W) => atom_Check what n sv tv s t W (hs.keep hW) (ht.keep hW) (hk.keep hW))
  have HTX := Lib.hid (fun (hc : Venn.atomChk ⟨what, s, t, n⟩ = 0) W (hW : Below w.heap.size w W) => atom_Text what n sv tv s t W (hs.keep hW) (ht.keep hW) (hk.keep hW) (htab.keep hW) hc)
  obtain ⟨SA, kS, rfl, _⟩ := hs
  obtain ⟨TA, kT, rfl, _⟩ := ht
  have BA := Blk.new w 32 #[.int .i64 what, .slice SA s.length kS, .slice TA t.length kT, .int .i64 n]
  have hal : Below w.heap.size w (w.alloc (.cells #[.int .i64 what, .slice SA s.length kS, .slice TA t.length kT, .int .i64 n] 32)) := by (repeat' (first | (with_reducible exact Below.refl _ _) | (with_reducible assumption) | (with_reducible refine Below.next ?_ (by with_reducible assumption)) | (with_reducible refine Below.drew ?_) | (with_reducible refine Below.laid ?_ _) | (with_reducible refine Below.setCell ?_ ?_ _) | (with_reducible refine size_of ?_) | (with_reducible refine Nat.le_succ_of_le ?_) | go_size))
  clear hk htab
  unfold printAV
  by_cases hc : Venn.atomChk ⟨what, s, t, n⟩ = 0
  · rw [if_pos hc]
    have HT2 := Lib.hid (HTX.out hc)
    rw [hc, errV_zero rfl] at HCH
    clear hc HTX
    obtain ⟨c0, c1, c2, c3⟩ := BA.cells4
    go_enter Tryz.func37, Tryz.ntmps37
    go_wp2_with fail
    refine (HCH.out _ hal).mono ?_
    rintro e w1 ⟨rfl, hb1⟩
    have hq1 := Below.next hal hb1
    have BA1 := BA.keep hb1
    clear c0 c1 c2 c3
    obtain ⟨c0, c1, c2, c3⟩ := BA1.cells4
    go_wp2_with fail
    refine (HT2.out _ hq1).mono ?_
    rintro e w2 ⟨rfl, hb2⟩
    go_wp2
    go_ret2
    exact ⟨rfl, Below.next hq1 hb2⟩
  · rw [if_neg hc]
    have HNE := Lib.hid (errV_ne hc)
    rw [HNE.out] at HCH ⊢
    clear hc HTX
    obtain ⟨c0, c1, c2, c3⟩ := BA.cells4
    go_enter Tryz.func37, Tryz.ntmps37
    go_wp2_with fail
    refine (HCH.out _ hal).mono ?_
    rintro e w1 ⟨rfl, hb1⟩
    go_wp2
    go_ret2
    exact ⟨rfl, Below.next hal hb1⟩
end Go.Proofs.YtcloppcekbdbaaaGreatDoor

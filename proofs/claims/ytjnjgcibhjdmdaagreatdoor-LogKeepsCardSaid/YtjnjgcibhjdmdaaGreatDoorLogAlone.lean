/-
  THE WALK of log.Alone.
-/
import Derived.Test.YtjnjgcibhjdmdaaGreatDoorSpanG
import Derived.Test.YtjnjgcibhjdmdaaGreatDoorFormG
import Derived.Deep.DeepCutAuto
namespace Venn
/-- The formula of one atom, or its opposite. -/
def aloneF (a : Atom) (h : Bool) : Form := ⟨[a], if h = true then [0] else [0, 12]⟩
end Venn
namespace Go.Proofs.YtjnjgcibhjdmdaaGreatDoor
open Go.RowKit

theorem slice_block {w : World} {g : Nat} {t : TypeId} {a : Addr} {k : IntKind} {x : Int} {A1 A2 : Option Addr} {n1 n2 c1 c2 : Nat} (hB : Blk w g t #[.slice A1 n1 c1, .slice A2 n2 c2]) (h : w.cell? a = some (.int k x)) : g ≠ a.block := by
  intro e
  unfold World.cell? at h
  rw [← e, show w.heap[g]? = some (.cells #[.slice A1 n1 c1, .slice A2 n2 c2] t (0, 0)) from hB] at h
  simp only at h
  split at h
  · cases h
  · rcases ho : a.off with _ | _ | n
    · rw [ho] at h; simp at h
    · rw [ho] at h; simp at h
    · rw [ho] at h; simp at h
theorem one_far {w : World} {g i : Nat} {a : Addr} {u : Value} (h : w.cell? a = some u) (hn : g ≠ a.block) (x : Value) : (w.setCell ⟨g, i, none⟩ x).cell? a = some u := by
  rw [World.cell?_setCell_far _ ⟨g, i, none⟩ a _ hn]
  exact h
theorem IsInts.fset {w : World} {g : Nat} {t : TypeId} {v : Value} {l : List Int} {A1 A2 : Option Addr} {n1 n2 c1 c2 : Nat} (h : IsInts w v l) (hB : Blk w g t #[.slice A1 n1 c1, .slice A2 n2 c2]) (i : Nat) (x : Value) : IsInts (w.setCell ⟨g, i, none⟩ x) v l := by
  obtain ⟨A, c, hv, hr, hc⟩ := h
  refine ⟨A, c, hv, fun j u hj => ?_, hc⟩
  obtain ⟨ad, e, h⟩ := hr j u hj
  obtain ⟨z, rfl⟩ : ∃ z, u = .int .i64 z := by
    rw [List.getElem?_map] at hj
    obtain ⟨z, _, rfl⟩ := Option.map_eq_some_iff.1 hj
    exact ⟨z, rfl⟩
  exact ⟨ad, e, by rw [World.cell?_setCell_far _ ⟨g, i, none⟩ _ _ (slice_block hB h)]; exact h⟩
theorem IsAtoms.fset {w : World} {g : Nat} {t : TypeId} {v : Value} {l : List Venn.Atom} {A1 A2 : Option Addr} {n1 n2 c1 c2 : Nat} (h : IsAtoms w v l) (hB : Blk w g t #[.slice A1 n1 c1, .slice A2 n2 c2]) (i : Nat) (x : Value) : IsAtoms (w.setCell ⟨g, i, none⟩ x) v l := by
  obtain ⟨A, c, hv, hr, hc⟩ := h
  refine ⟨A, c, hv, fun k a ha => ?_, hc⟩
  obtain ⟨ad, sv, tv, e, h0, h1, h2, h3, hs, ht⟩ := hr k a ha
  have hn : g ≠ (ad.add (k * 4)).block := slice_block hB h0
  exact ⟨ad, sv, tv, e, one_far h0 hn x, one_far h1 hn x, one_far h2 hn x, one_far h3 hn x, hs.fset hB i x, ht.fset hB i x⟩
theorem alone_chk {a : Venn.Atom} (h : Venn.atomChk a = 0) : Venn.formChk ⟨[a], [0]⟩ = 0 := by
  unfold Venn.formChk
  simp [Venn.atomsChk, h]
  decide

theorem But.setNewL {C : Nat → Prop} {X Y : World} (h : But C X Y) {p : Addr} (hp : X.heap.size ≤ p.block) (v : Value) : But C X (Y.setCell p v) :=
  ⟨h.os, h.tape, h.output, by simpa [World.setCell] using h.size, fun k hk hc => (Below.heap_setCell Y p v k (by omega)).trans (h.block k hk hc)⟩
/-- It lies in blocks of its own: whatever else changes. -/
def AlonePost (f : Venn.Form) (w : World) (e : Ending) (w' : World) : Prop :=
  ∃ A kA C kC, e = .returned (.agg #[.slice A f.atoms.length kA, .slice C f.code.length kC]) ∧ Below w.heap.size w w' ∧
    ∀ w'', But (fun b => b < w.heap.size) w' w'' → IsAtoms w'' (.slice A f.atoms.length kA) f.atoms ∧ IsInts w'' (.slice C f.code.length kC) f.code
set_option maxHeartbeats 4000000 in
set_option maxRecDepth 100000 in
theorem log_Alone (what n : Int) (sv tv : Value) (s t : List Int) (holds : Bool) (w : World) (hs : IsInts w sv s) (ht : IsInts w tv t) (hc : Venn.atomChk ⟨what, s, t, n⟩ = 0) :
    Calls Tryz.prog 27 #[.agg #[.int .i64 what, sv, tv, .int .i64 n], .bool holds] w (AlonePost (Venn.aloneF ⟨what, s, t, n⟩ holds) w) := by
  have HS := Lib.hid hs
  have HT := Lib.hid ht
  have HF := Lib.hid (alone_chk hc)
  obtain ⟨SA, kS, rfl, _⟩ := hs
  obtain ⟨TA, kT, rfl, _⟩ := ht
  clear hc
  have B1 := Lib.hid (((Blk.newAt (w := w.alloc (.cells #[.int .i64 what, .slice SA s.length kS, .slice TA t.length kT, .int .i64 n] 32)) (g := w.heap.size + 1) (by simp) 38 #[.slice none 0 0, .slice none 0 0]).alloc (.cells #[.int .i64 what, .slice SA s.length kS, .slice TA t.length kT, .int .i64 n] 32)).alloc (.cells #[.int .i64 0] 3))
  have B2 := Lib.hid ((Blk.newAt (w := (w.alloc (.cells #[.int .i64 what, .slice SA s.length kS, .slice TA t.length kT, .int .i64 n] 32)).alloc (.cells #[.slice none 0 0, .slice none 0 0] 38)) (g := w.heap.size + 1 + 1) (by simp) 32 #[.int .i64 what, .slice SA s.length kS, .slice TA t.length kT, .int .i64 n]).alloc (.cells #[.int .i64 0] 3))
  have B3 := Lib.hid (Blk.newAt (w := ((w.alloc (.cells #[.int .i64 what, .slice SA s.length kS, .slice TA t.length kT, .int .i64 n] 32)).alloc (.cells #[.slice none 0 0, .slice none 0 0] 38)).alloc (.cells #[.int .i64 what, .slice SA s.length kS, .slice TA t.length kT, .int .i64 n] 32)) (g := w.heap.size + 1 + 1 + 1) (by simp) 3 #[.int .i64 0])
  have hb0 : Below w.heap.size w ((((w.alloc (.cells #[.int .i64 what, .slice SA s.length kS, .slice TA t.length kT, .int .i64 n] 32)).alloc (.cells #[.slice none 0 0, .slice none 0 0] 38)).alloc (.cells #[.int .i64 what, .slice SA s.length kS, .slice TA t.length kT, .int .i64 n] 32)).alloc (.cells #[.int .i64 0] 3)) := by (repeat' (first | (with_reducible exact Below.refl _ _) | (with_reducible assumption) | (with_reducible refine Below.next ?_ (by with_reducible assumption)) | (with_reducible refine Below.drew ?_) | (with_reducible refine Below.laid ?_ _) | (with_reducible refine Below.setCell ?_ ?_ _) | (with_reducible refine size_of ?_) | (with_reducible refine Nat.le_succ_of_le ?_) | go_size))
  go_enter Tryz.func27, Tryz.ntmps27
  go_wp2_with fail
  revert B1 B2 B3 hb0
  generalize (((w.alloc (.cells #[.int .i64 what, .slice SA s.length kS, .slice TA t.length kT, .int .i64 n] 32)).alloc (.cells #[.slice none 0 0, .slice none 0 0] 38)).alloc (.cells #[.int .i64 what, .slice SA s.length kS, .slice TA t.length kT, .int .i64 n] 32)).alloc (.cells #[.int .i64 0] 3) = w1
  intro B1 B2 B3 hb0
  have IA := IsAtoms.one (a := ⟨what, s, t, n⟩) B2.out (HS.out.keep hb0) (HT.out.keep hb0)
  have IC := IsInts.of_blk1 B3.out
  have hg1 := B1.out.lt
  refine (form_Own _ _ [⟨what, s, t, n⟩] [0] w1 IA IC HF.out).mono ?_
  rintro e w2 ⟨p, ga, ka, gc, kc, rfl, hb2, hpl, HO⟩
  simp only [List.length_cons, List.length_nil, Nat.zero_add] at HO ⊢
  have hpl1 : p.length = 1 := by have := congrArg List.length hpl; simpa using this
  have BF := Blk.new w2 38 #[.slice (some ⟨ga, 0, none⟩) 1 ka, .slice (some ⟨gc, 0, none⟩) 1 kc]
  have BR := (B1.out.keep hb2).alloc (.cells #[.slice (some ⟨ga, 0, none⟩) 1 ka, .slice (some ⟨gc, 0, none⟩) 1 kc] 38)
  have hal : Below w2.heap.size w2 (w2.alloc (.cells #[.slice (some ⟨ga, 0, none⟩) 1 ka, .slice (some ⟨gc, 0, none⟩) 1 kc] 38)) := by have w := w2; (repeat' (first | (with_reducible exact Below.refl _ _) | (with_reducible assumption) | (with_reducible refine Below.next ?_ (by with_reducible assumption)) | (with_reducible refine Below.drew ?_) | (with_reducible refine Below.laid ?_ _) | (with_reducible refine Below.setCell ?_ ?_ _) | (with_reducible refine size_of ?_) | (with_reducible refine Nat.le_succ_of_le ?_) | go_size))
  have hq2 := Below.next hb0 hb2
  have hq3 := Below.next hq2 hal
  have hs2 := hb2.size
  cases holds
  · -- the opposite
    have hca := HO.cRow.lt gc rfl
    have haa := HO.aRow.lt ga rfl
    have hne := HO.ne ga gc rfl rfl
    obtain ⟨⟨f0, f1⟩, f2, f3⟩ := BF.cells2
    go_wp2_with (at_builtin; refine wpList_app1 _ rfl _ _ rfl w1.heap.size (.slice (some ⟨gc, 0, none⟩) 1 kc) 1 _ rfl ((HO.cRow.alloc _).alloc _) (w2.heap.size + 1) 1 12 (by simp [go_sem]) (by simp) (by omega) (by simp; omega) ?_)
    intro v' w5 hown hgr
    obtain ⟨gd, kd, qd, rfl, hgd, BD, hkd1, hkd2, hkd3, hkd4⟩ := own_cons hown (by omega)
    have hbt := But.of_grown hgr
    have GL5 : Below w.heap.size w w5 := (Below.laid hq3 (.cells #[.int .i64 12] 3)).grown hgr (by have := hq3.size; simp; simp at this; omega) (fun g hg => by simp [Value.ownBlock] at hg; have := hb0.size; omega)
    have GS5 := (BF.alloc (.cells #[.int .i64 12] 3)).but hbt (by simp [Value.ownBlock]; omega)
    have GR5 := (BR.alloc (.cells #[.int .i64 12] 3)).but hbt (by simp [Value.ownBlock]; omega)
    have GA5 := own_but ((HO.aRow.alloc (.cells #[.slice (some ⟨ga, 0, none⟩) 1 ka, .slice (some ⟨gc, 0, none⟩) 1 kc] 38)).alloc (.cells #[.int .i64 12] 3)) hbt (by intro b e; simp [Value.ownBlock] at e ⊢; omega)
    have GP5 := ((HO.ok.keep hal).keep (by have w := w2.alloc (.cells #[.slice (some ⟨ga, 0, none⟩) 1 ka, .slice (some ⟨gc, 0, none⟩) 1 kc] 38); exact (Below.refl _ _).alloc (Nat.le_refl _) (.cells #[.int .i64 12] 3))).but hbt (by intro x hx b e hC; have := (HO.far x hx b e).2.2; simp [Value.ownBlock] at this hC; omega)
    have hgg : w.heap.size + 1 ≠ w2.heap.size := by omega
    have GS6 := GS5.set_ 1 (.slice (some ⟨gd, 0, none⟩) 2 kd)
    have e6 : (#[Value.slice (some ⟨ga, 0, none⟩) 1 ka, Value.slice (some ⟨gc, 0, none⟩) 1 kc].setIfInBounds 1 (.slice (some ⟨gd, 0, none⟩) 2 kd)) = #[.slice (some ⟨ga, 0, none⟩) 1 ka, .slice (some ⟨gd, 0, none⟩) 2 kd] := by simp
    rw [e6] at GS6
    have GR6 := GR5.far (p := ⟨w2.heap.size, 1, none⟩) hgg (.slice (some ⟨gd, 0, none⟩) 2 kd)
    have GL6 := GL5.setCell (p := ⟨w2.heap.size, 1, none⟩) (by have := hq2.size; simpa using this) (.slice (some ⟨gd, 0, none⟩) 2 kd)
    obtain ⟨⟨g0, g1⟩, g2, g3⟩ := GS5.cells2
    obtain ⟨⟨r0, r1⟩, r2, r3⟩ := GR5.cells2
    have GRf := GR6.set2 (.slice (some ⟨ga, 0, none⟩) 1 ka) (.slice (some ⟨gd, 0, none⟩) 2 kd)
    have GLf := below_set2 GL6 (show w.heap.size ≤ w.heap.size + 1 by omega) (.slice (some ⟨ga, 0, none⟩) 1 ka) (.slice (some ⟨gd, 0, none⟩) 2 kd)
    have hd4 : gd ≠ w2.heap.size := by
      intro e
      have h1 : w5.heap[gd]? = some (.cells qd 3 (0, 0)) := BD
      have h2 : w5.heap[w2.heap.size]? = some (.cells #[.slice (some ⟨ga, 0, none⟩) 1 ka, .slice (some ⟨gc, 0, none⟩) 1 kc] 38 (0, 0)) := GS5
      rw [e, h2] at h1
      injection h1 with h1
      injection h1 with _ h1 _
      exact absurd h1 (by decide)
    have hs0 := hb0.size
    have hcl : ∀ w'', But (fun b => b < w.heap.size) (((w5.setCell ⟨w2.heap.size, 1, none⟩ (.slice (some ⟨gd, 0, none⟩) 2 kd)).setCell ⟨w.heap.size + 1, 0, none⟩ (.slice (some ⟨ga, 0, none⟩) 1 ka)).setCell ⟨w.heap.size + 1, 1, none⟩ (.slice (some ⟨gd, 0, none⟩) 2 kd)) w'' → IsAtoms w'' (.slice (some ⟨ga, 0, none⟩) 1 ka) [⟨what, s, t, n⟩] ∧ IsInts w'' (.slice (some ⟨gd, 0, none⟩) 2 kd) [0, 12] := fun w'' hbw => by
      have h5 : But (fun b => b < w.heap.size ∨ b = w.heap.size + 1 ∨ b = w2.heap.size) w5 w'' := ((((But.refl _ w5).set_ (p := ⟨w2.heap.size, 1, none⟩) (.inr (.inr rfl)) _).set_ (p := ⟨w.heap.size + 1, 0, none⟩) (.inr (.inl rfl)) _).set_ (p := ⟨w.heap.size + 1, 1, none⟩) (.inr (.inl rfl)) _).trans (hbw.wide fun _ h => .inl h)
      have hal2 : Below w2.heap.size w2 ((w2.alloc (.cells #[.slice (some ⟨ga, 0, none⟩) 1 ka, .slice (some ⟨gc, 0, none⟩) 1 kc] 38)).alloc (.cells #[.int .i64 12] 3)) := by have w := w2; (repeat' (first | (with_reducible exact Below.refl _ _) | (with_reducible assumption) | (with_reducible refine Below.next ?_ (by with_reducible assumption)) | (with_reducible refine Below.drew ?_) | (with_reducible refine Below.laid ?_ _) | (with_reducible refine Below.setCell ?_ ?_ _) | (with_reducible refine size_of ?_) | (with_reducible refine Nat.le_succ_of_le ?_) | go_size))
      have h2 : But (fun b => b < w.heap.size ∨ b = w.heap.size + 1 ∨ b = gc) w2 w'' := (((((But.of_below hal2).trans (hbt.wide fun b e => .inr (.inr (by simp [Value.ownBlock] at e; omega)))).setNewL (p := ⟨w2.heap.size, 1, none⟩) (Nat.le_refl _) _).set_ (p := ⟨w.heap.size + 1, 0, none⟩) (.inr (.inl rfl)) _).set_ (p := ⟨w.heap.size + 1, 1, none⟩) (.inr (.inl rfl)) _).trans (hbw.wide fun _ h => .inl h)
      have ga1 := own_but HO.aRow h2 (fun b e hC => by simp [Value.ownBlock] at e; omega)
      have ga2 := HO.ok.but h2 (by
        intro x hx b e hC
        obtain ⟨f1, f2, f3⟩ := HO.far x hx b e
        simp [Value.ownBlock] at f3
        rcases hC with h | h | h
        · omega
        · omega
        · exact f3 h.symm)
      have hI := atoms_of_own ga1 ga2
      rw [hpl] at hI
      have gc1 := own_but hown h5 (fun b e hC => by simp [Value.ownBlock] at e; omega)
      exact ⟨hI, IsInts.of_own (l := [0, 12]) (v := .slice (some ⟨gd, 0, none⟩) 2 kd) (n := 2) (e := 3) (base := w1.heap.size) (w := w'') (by simpa using gc1)⟩
    have GF := Lib.hid (And.intro GLf hcl)
    clear f0 f1 f2 f3 hbt hgr GA5 GP5 hown HO GS6 GR6 GL6 GL5 GLf hcl BD
    go_wp2
    clear g0 g1 g2 g3 r0 r1 r2 r3 GS5 GR5
    revert GRf GF
    generalize World.setCell _ _ _ = Wf
    intro GRf GF
    obtain ⟨⟨e0, e1⟩, _⟩ := GRf.cells2
    refine bodyPost_ret (v := .agg #[.slice (some ⟨ga, 0, none⟩) 1 ka, .slice (some ⟨gd, 0, none⟩) 2 kd]) (by simp [results, Tryz.results27, go_sem, e0, e1]) rfl ?_
    exact ⟨some ⟨ga, 0, none⟩, ka, some ⟨gd, 0, none⟩, kd, rfl, GF.out.1, GF.out.2⟩
  · -- the atom alone
    obtain ⟨⟨f0, f1⟩, f2, f3⟩ := BF.cells2
    obtain ⟨⟨r0, r1⟩, r2, r3⟩ := BR.cells2
    have GRf := BR.set2 (.slice (some ⟨ga, 0, none⟩) 1 ka) (.slice (some ⟨gc, 0, none⟩) 1 kc)
    have GLf := below_set2 hq3 (show w.heap.size ≤ w.heap.size + 1 by omega) (.slice (some ⟨ga, 0, none⟩) 1 ka) (.slice (some ⟨gc, 0, none⟩) 1 kc)
    have hs0 := hb0.size
    have hcl : ∀ w'', But (fun b => b < w.heap.size) (((w2.alloc (.cells #[.slice (some ⟨ga, 0, none⟩) 1 ka, .slice (some ⟨gc, 0, none⟩) 1 kc] 38)).setCell ⟨w.heap.size + 1, 0, none⟩ (.slice (some ⟨ga, 0, none⟩) 1 ka)).setCell ⟨w.heap.size + 1, 1, none⟩ (.slice (some ⟨gc, 0, none⟩) 1 kc)) w'' → IsAtoms w'' (.slice (some ⟨ga, 0, none⟩) 1 ka) [⟨what, s, t, n⟩] ∧ IsInts w'' (.slice (some ⟨gc, 0, none⟩) 1 kc) [0] := fun w'' hbw => by
      have h2 : But (fun b => b < w.heap.size ∨ b = w.heap.size + 1) w2 w'' := (((But.of_below hal).set_ (p := ⟨w.heap.size + 1, 0, none⟩) (.inr rfl) _).set_ (p := ⟨w.heap.size + 1, 1, none⟩) (.inr rfl) _).trans (hbw.wide fun _ h => .inl h)
      have HO' := HO.but h2 (fun b h => by rcases h with h | h <;> omega)
      have hI := HO'.isAtoms
      rw [hpl] at hI
      exact ⟨hI, HO'.isInts⟩
    have GF := Lib.hid (And.intro GLf hcl)
    clear GLf hcl HO
    go_wp2
    clear f0 f1 f2 f3 r0 r1 r2 r3
    revert GRf GF
    generalize World.setCell _ _ _ = Wf
    intro GRf GF
    obtain ⟨⟨e0, e1⟩, _⟩ := GRf.cells2
    refine bodyPost_ret (v := .agg #[.slice (some ⟨ga, 0, none⟩) 1 ka, .slice (some ⟨gc, 0, none⟩) 1 kc]) (by simp [results, Tryz.results27, go_sem, e0, e1]) rfl ?_
    exact ⟨some ⟨ga, 0, none⟩, ka, some ⟨gc, 0, none⟩, kc, rfl, GF.out.1, GF.out.2⟩
end Go.Proofs.YtjnjgcibhjdmdaaGreatDoor

/-
  THE WALK of form.Own: a copy of a formula, the call's own.
-/
import Derived.Test.YtlpfbdejiifbpaaGreatDoorOwnA
import Derived.Test.YtlpfbdejiifbpaaGreatDoorSpan
import Derived.Test.YtlpfbdejiifbpaaGreatDoorCore
import Derived.Deep.RegionLaw
import Derived.Deep.RegionHeld3
namespace Go.Proofs.YtlpfbdejiifbpaaGreatDoor
open Go.RowKit

theorem aCells_set : ∀ (p1 : List AV) (x : AV) (rest : List AV) (sv tv : Value), ((aCells (p1 ++ x :: rest)).set (p1.length * 4 + 1) sv).set (p1.length * 4 + 2) tv = aCells (p1 ++ (x.1, sv, tv) :: rest) := by
  intro p1
  induction p1 with
  | nil => intro x rest sv tv; rfl
  | cons y p1 ih =>
    intro x rest sv tv
    rw [List.length_cons, Nat.succ_mul, show p1.length * 4 + 4 + 1 = p1.length * 4 + 1 + 4 by omega, show p1.length * 4 + 4 + 2 = p1.length * 4 + 2 + 4 by omega]
    simp only [List.cons_append, aCells, List.set_cons_succ]
    rw [ih]
theorem own_cons {w : World} {base : Nat} {e : TypeId} {size : Nat} {v : Value} {n : Nat} {xs : List Value} (h : w.ownsRow base e size v n xs) (hn : 0 < n) :
    ∃ g cap cur, v = .slice (some ⟨g, 0, none⟩) n cap ∧ base ≤ g ∧ Blk w g e cur ∧ n ≤ cap ∧ cap ≤ maxLen ∧ cur.size = cap * size ∧ cur.toList.take (n * size) = xs := by
  rcases h.2 with ⟨_, h0⟩ | ⟨g, cap, cur, e1, e2, e3, e4, e5, e6, e7⟩
  · omega
  · exact ⟨g, cap, cur, e1, e2, e3, e4, e5, e6, e7⟩

/-- A formula of a call's own: its two rows, and what its atoms' slices hold. -/
structure OwnForm (B : Nat) (w' : World) (va vc : Value) (p : List AV) (c : List Int) : Prop where
  aRow : w'.ownsRow B 42 4 va p.length (aCells p)
  cRow : w'.ownsRow B 3 1 vc c.length (c.map (Value.int .i64))
  ok : AOk w' p
  ne : ∀ a b, va.ownBlock = some a → vc.ownBlock = some b → a < b
  far : ∀ x ∈ p, ∀ b, (x.2.1.ownBlock = some b ∨ x.2.2.ownBlock = some b) → B ≤ b ∧ va.ownBlock ≠ some b ∧ vc.ownBlock ≠ some b
def OwnPost (l : List Venn.Atom) (c : List Int) (w : World) (e : Ending) (w' : World) : Prop :=
  ∃ (p : List AV) (ga ka gc kc : Nat), e = .returned (.agg #[.slice (some ⟨ga, 0, none⟩) l.length ka, .slice (some ⟨gc, 0, none⟩) c.length kc]) ∧ Below w.heap.size w w' ∧ p.map (fun x : AV => x.1) = l ∧
    OwnForm w.heap.size w' (.slice (some ⟨ga, 0, none⟩) l.length ka) (.slice (some ⟨gc, 0, none⟩) c.length kc) p c
theorem OwnForm.isAtoms {B : Nat} {w : World} {va vc : Value} {p : List AV} {c : List Int} (h : OwnForm B w va vc p c) : IsAtoms w va (p.map (fun x : AV => x.1)) := atoms_of_own h.aRow h.ok
theorem OwnForm.isInts {B : Nat} {w : World} {va vc : Value} {p : List AV} {c : List Int} (h : OwnForm B w va vc p c) : IsInts w vc c := IsInts.of_own h.cRow

theorem OwnForm.but {C : Nat → Prop} {B : Nat} {w w' : World} {va vc : Value} {p : List AV} {c : List Int} (h : OwnForm B w va vc p c) (hb : But C w w') (hc : ∀ b, C b → b < B) : OwnForm B w' va vc p c :=
  ⟨own_but h.aRow hb fun b e hC => by have := (h.aRow.lt b e).1; have := hc b hC; omega, own_but h.cRow hb fun b e hC => by have := (h.cRow.lt b e).1; have := hc b hC; omega,
    h.ok.but hb fun x hx b e hC => by have := (h.far x hx b e).1; have := hc b hC; omega, h.ne, h.far⟩
theorem OwnForm.mono {B B' : Nat} {w : World} {va vc : Value} {p : List AV} {c : List Int} (h : OwnForm B w va vc p c) (hb : B' ≤ B) : OwnForm B' w va vc p c :=
  ⟨own_base h.aRow hb, own_base h.cRow hb, h.ok, h.ne, fun x hx b e => ⟨Nat.le_trans hb (h.far x hx b e).1, (h.far x hx b e).2⟩⟩
theorem OwnForm.keep {B : Nat} {w w' : World} {va vc : Value} {p : List AV} {c : List Int} (h : OwnForm B w va vc p c) (hb : Below w.heap.size w w') : OwnForm B w' va vc p c :=
  h.but (But.of_below (C := fun _ => False) hb) fun _ h => h.elim
/-- The loop's state: k atoms have their own slices. -/
structure OwnAt (w wr : World) (p p1 : List AV) (va vc : Value) (ga ka gc : Nat) (qc cur : Array Value) (k : Nat) : Prop where
  below : Below w.heap.size w wr
  box : Blk wr w.heap.size 25 #[va, vc]
  res : Blk wr (w.heap.size + 1) 25 #[.slice none 0 0, .slice none 0 0]
  row : Blk wr ga 42 cur
  size : cur.size = ka * 4
  cells : cur.toList.take (p.length * 4) = aCells (p1 ++ p.drop k)
  done : p1.map (fun x : AV => x.1) = (p.take k).map (fun x : AV => x.1)
  ok : AOk wr p1
  far : ∀ x ∈ p1, ∀ b, (x.2.1.ownBlock = some b ∨ x.2.2.ownBlock = some b) → gc < b
  code : Blk wr gc 3 qc
  lo : w.heap.size + 1 < ga
  lt : ga < gc
theorem OwnAt.step {w wr w2 : World} {p p1 : List AV} {va vc : Value} {ga ka gc : Nat} {qc cur : Array Value} {k : Nat} (h : OwnAt w wr p p1 va vc ga ka gc qc cur k) {x : AV} (hx : p[k]? = some x) (hb : Below wr.heap.size wr w2)
    {sv tv : Value} (hs : IsInts w2 sv x.1.s) (ht : IsInts w2 tv x.1.t) (hsb : ∀ b, sv.ownBlock = some b → wr.heap.size ≤ b) (htb : ∀ b, tv.ownBlock = some b → wr.heap.size ≤ b) :
    OwnAt w ((w2.setCell ⟨ga, k * 4 + 1, none⟩ sv).setCell ⟨ga, k * 4 + 2, none⟩ tv) p (p1 ++ [(x.1, sv, tv)]) va vc ga ka gc qc ((cur.setIfInBounds (k * 4 + 1) sv).setIfInBounds (k * 4 + 2) tv) (k + 1) := by
  have hk := (List.getElem?_eq_some_iff.1 hx).1
  have hxe := (List.getElem?_eq_some_iff.1 hx).2
  have hgl := h.row.lt
  have hcl := h.code.lt
  have hlen : p1.length = k := by
    have := congrArg List.length h.done
    simp only [List.length_map, List.length_take] at this
    omega
  have hbut : But (fun b => b = ga) w2 ((w2.setCell ⟨ga, k * 4 + 1, none⟩ sv).setCell ⟨ga, k * 4 + 2, none⟩ tv) :=
    ((But.refl (fun b => b = ga) w2).set_ (p := ⟨ga, k * 4 + 1, none⟩) rfl sv).set_ (p := ⟨ga, k * 4 + 2, none⟩) rfl tv
  have hlo := h.lo
  have hlt := h.lt
  refine ⟨?_, ?_, ?_, ?_, ?_, ?_, ?_, ?_, ?_, ?_, hlo, hlt⟩
  · exact ((Below.next h.below hb).setCell (by show w.heap.size ≤ ga; omega) _).setCell (by show w.heap.size ≤ ga; omega) _
  · exact (h.box.keep hb).but hbut (by omega)
  · exact (h.res.keep hb).but hbut (by omega)
  · exact ((h.row.keep hb).set_ _ _).set_ _ _
  · simpa using h.size
  · have e := h.cells
    rw [List.drop_eq_getElem_cons hk, hxe] at e
    rw [Array.toList_setIfInBounds, Array.toList_setIfInBounds, List.take_set, List.take_set, e, ← hlen, aCells_set, hlen]
    simp
  · rw [List.map_append, h.done, List.take_succ_eq_append_getElem hk, List.map_append, hxe]
    rfl
  · intro y hy
    rcases List.mem_append.1 hy with hy | hy
    · have hf := h.far y hy
      exact ⟨((h.ok y hy).1.keep hb).but hbut fun b e => by have := hf b (.inl e); omega, ((h.ok y hy).2.keep hb).but hbut fun b e => by have := hf b (.inr e); omega⟩
    · rw [List.mem_singleton.1 hy]
      exact ⟨hs.but hbut fun b e => by have := hsb b e; omega, ht.but hbut fun b e => by have := htb b e; omega⟩
  · intro y hy b e
    rcases List.mem_append.1 hy with hy | hy
    · exact h.far y hy b e
    · rw [List.mem_singleton.1 hy] at e
      rcases e with e | e
      · have := hsb b e; omega
      · have := htb b e; omega
  · exact (h.code.keep hb).but hbut (by omega)
theorem OwnAt.cur {w wr : World} {p p1 : List AV} {va vc : Value} {ga ka gc : Nat} {qc cur : Array Value} {k : Nat} (h : OwnAt w wr p p1 va vc ga ka gc qc cur k) {x : AV} (hx : p[k]? = some x) :
    cur[k * 4]? = some (.int .i64 x.1.what) ∧ cur[k * 4 + 1]? = some x.2.1 ∧ cur[k * 4 + 2]? = some x.2.2 ∧ cur[k * 4 + 3]? = some (.int .i64 x.1.n) := by
  have hk := (List.getElem?_eq_some_iff.1 hx).1
  have hxe := (List.getElem?_eq_some_iff.1 hx).2
  have hlen : p1.length = k := by
    have := congrArg List.length h.done
    simp only [List.length_map, List.length_take] at this
    omega
  have hat : (p1 ++ p.drop k)[k]? = some x := by
    rw [List.drop_eq_getElem_cons hk, hxe, ← hlen]
    simp
  have key : ∀ i, i < p.length * 4 → cur[i]? = (aCells (p1 ++ p.drop k))[i]? := fun i hi => by
    rw [← h.cells, List.getElem?_take, if_pos hi]
    simp
  obtain ⟨c0, c1, c2, c3⟩ := aCells_at _ _ _ hat
  exact ⟨(key _ (by omega)).trans c0, (key _ (by omega)).trans c1, (key _ (by omega)).trans c2, (key _ (by omega)).trans c3⟩
theorem held_own {W : World} {f x : Nat} {tF tA : TypeId} {va vc a0 a3 sv tv : Value} (hB : Blk W f tF #[va, vc]) (hX : Blk W x tA #[a0, sv, tv, a3]) :
    W.cell? ⟨f, 0, none⟩ = some va ∧ W.cell? ⟨x, 1, none⟩ = some sv ∧ W.cell? ⟨x, 2, none⟩ = some tv := ⟨hB.cell 0, hX.cell 1, hX.cell 2⟩
/-- The loop's beginning: the two rows are copied. -/
def OwnStart (w wx : World) (p : List AV) (c : List Int) : Prop := ∃ (ga ka : Nat) (qa : Array Value) (gc kc : Nat) (qc : Array Value),
  OwnAt w wx p [] (.slice (some ⟨ga, 0, none⟩) p.length ka) (.slice (some ⟨gc, 0, none⟩) c.length kc) ga ka gc qc qa 0 ∧ p.length ≤ ka ∧ ka ≤ maxLen ∧ c.length ≤ kc ∧ kc ≤ maxLen ∧ qc.size = kc * 1 ∧ qc.toList.take (c.length * 1) = c.map (Value.int .i64)
/-- The loop's end. -/
theorem OwnAt.post {w wr : World} {p p1 : List AV} {c : List Int} {ga ka gc kc : Nat} {qc cur : Array Value} (h : OwnAt w wr p p1 (.slice (some ⟨ga, 0, none⟩) p.length ka) (.slice (some ⟨gc, 0, none⟩) c.length kc) ga ka gc qc cur p.length)
    (h1 : p.length ≤ ka) (h2 : ka ≤ maxLen) (h3 : c.length ≤ kc) (h4 : kc ≤ maxLen) (h5 : qc.size = kc * 1) (h6 : qc.toList.take (c.length * 1) = c.map (Value.int .i64)) :
    OwnForm (w.heap.size + 2) wr (.slice (some ⟨ga, 0, none⟩) p.length ka) (.slice (some ⟨gc, 0, none⟩) c.length kc) p1 c ∧ p1.map (fun x : AV => x.1) = p.map (fun x : AV => x.1) := by
  have hd : p1.map (fun x : AV => x.1) = p.map (fun x : AV => x.1) := by rw [h.done, List.take_length]
  have hlen : p1.length = p.length := by simpa using congrArg List.length hd
  have hlo := h.lo
  have hlt := h.lt
  have e := h.cells
  rw [List.drop_length, List.append_nil] at e
  refine ⟨⟨⟨by rw [aCells_len], .inr ⟨ga, ka, cur, by rw [hlen], by omega, h.row, by omega, h2, h.size, by rw [hlen]; exact e⟩⟩,
    ⟨by simp, .inr ⟨gc, kc, qc, rfl, by omega, h.code, h3, h4, h5, h6⟩⟩, h.ok, fun a b ea eb => ?_, fun x hx b eb => ?_⟩, hd⟩
  · simp only [Value.ownBlock, Option.some.injEq] at ea eb
    omega
  · have := h.far x hx b eb
    simp only [Value.ownBlock, ne_eq, Option.some.injEq]
    omega
theorem form_small {l : List Venn.Atom} {c : List Int} (h : Venn.formChk ⟨l, c⟩ = 0) : (0 < l.length ∧ l.length ≤ 6) ∧ (0 < c.length ∧ c.length ≤ 20) ∧ ∀ a ∈ l, a.s.length ≤ 12 ∧ a.t.length ≤ 12 := by
  obtain ⟨h1, h2, h3, h4, h5, _, _⟩ := Venn.formChk_parts h
  have ht : ∀ {t : List Int}, Venn.termChk t = 0 → t.length ≤ 12 := fun {t} h => by
    unfold Venn.termChk at h
    split at h
    · cases h
    split at h
    · cases h
    omega
  refine ⟨⟨h1, h2⟩, ⟨h3, h4⟩, fun a ha => ?_⟩
  obtain ⟨_, _, hs, ht1, ht2, _⟩ := Venn.atomChk_parts (Venn.atomsChk_mem h5 a ha)
  refine ⟨ht hs, ?_⟩
  cases hT : Venn.hasT a.what
  · rw [ht2 hT]; simp
  · exact ht (ht1 hT)

set_option maxHeartbeats 4000000 in
set_option maxRecDepth 100000 in
theorem form_Own (sa sc : Value) (l : List Venn.Atom) (c : List Int) (w : World) (ha : IsAtoms w sa l) (hc : IsInts w sc c) (hf : Venn.formChk ⟨l, c⟩ = 0) :
    Calls Tryz.prog 83 #[.agg #[sa, sc]] w (OwnPost l c w) := by
  obtain ⟨⟨hl0, hl6⟩, ⟨hc0, hc20⟩, hst⟩ := form_small hf
  obtain ⟨A, cA, p, rfl, hpl, hrA, hpA, hA1, hA2⟩ := atoms_open ha
  obtain ⟨C, cC, rfl⟩ := hc.slice
  have hplen : p.length = l.length := by rw [← hpl]; simp
  obtain ⟨ad, rfl⟩ : ∃ ad, A = some ad := by
    obtain ⟨x, hx⟩ : ∃ x, p[0]? = some x := ⟨p[0]'(by omega), List.getElem?_eq_getElem (by omega)⟩
    obtain ⟨ad, e, _⟩ := hrA _ _ (aCells_at p 0 x hx).1
    exact ⟨ad, e⟩
  subst hpl
  have HRA := Lib.hid hrA
  have HPA := Lib.hid hpA
  have HC := Lib.hid hc
  have HST := Lib.hid hst
  have hp0 : 0 < p.length := by omega
  have hp6 : p.length ≤ 6 := by omega
  clear ha hc hf hrA hpA hst hplen hl0 hl6
  go_enter Tryz.func83, Tryz.ntmps83
  go_wp2_with fail
  have BF := (Blk.new w 25 #[.slice (some ad) p.length cA, .slice C c.length cC]).alloc (.cells #[.slice none 0 0, .slice none 0 0] 25)
  have BR := Blk.newAt (w := w.alloc (.cells #[.slice (some ad) p.length cA, .slice C c.length cC] 25)) (g := w.heap.size + 1) (by simp) 25 #[.slice none 0 0, .slice none 0 0]
  go_cut [7] (fun s7 wx => OwnStart w wx p c)
  case first =>
    go_region_law (first
      | (go_simp; go_at_call 100; refine (clone_atoms ad cA p _ (HRA.out.keep (by (repeat' (first | (with_reducible exact Below.refl _ _) | (with_reducible assumption) | (with_reducible refine Below.next ?_ (by with_reducible assumption)) | (with_reducible refine Below.drew ?_) | (with_reducible refine Below.laid ?_ _) | (with_reducible refine Below.setCell ?_ ?_ _) | (with_reducible refine size_of ?_) | (with_reducible refine Nat.le_succ_of_le ?_) | go_size)))) (HPA.out.keep (by (repeat' (first | (with_reducible exact Below.refl _ _) | (with_reducible assumption) | (with_reducible refine Below.next ?_ (by with_reducible assumption)) | (with_reducible refine Below.drew ?_) | (with_reducible refine Below.laid ?_ _) | (with_reducible refine Below.setCell ?_ ?_ _) | (with_reducible refine size_of ?_) | (with_reducible refine Nat.le_succ_of_le ?_) | go_size)))) (by omega)).mono ?_; rintro e w1 ⟨va, rfl, hb1, hown1⟩
         obtain ⟨ga, ka, qa, rfl, hga, BA, hka1, hka2, hka3, hka4⟩ := own_cons hown1 hp0
         have BF1 := BF.drew.keep hb1; have BR1 := BR.drew.keep hb1; obtain ⟨⟨d0, d1⟩, e0, e1⟩ := BF1.cells2; have hl1 := BF1.lt)
      | (go_simp; go_at_call 101; refine (clone_ints _ c _ (HC.out.keep (by (repeat' (first | (with_reducible exact Below.refl _ _) | (with_reducible assumption) | (with_reducible refine Below.next ?_ (by with_reducible assumption)) | (with_reducible refine Below.drew ?_) | (with_reducible refine Below.laid ?_ _) | (with_reducible refine Below.setCell ?_ ?_ _) | (with_reducible refine size_of ?_) | (with_reducible refine Nat.le_succ_of_le ?_) | go_size)))) (by omega)).mono ?_; rintro e w2 ⟨vc, rfl, hb2, hown2⟩
         obtain ⟨gc, kc, qc, rfl, hgc, BC, hkc1, hkc2, hkc3, hkc4⟩ := own_cons hown2 hc0
         have BF2 := BF1.keep hb2; have BR2 := BR1.keep hb2; have BA2 := BA.keep hb2; obtain ⟨⟨f0, f1⟩, g0, g1⟩ := BF2.cells2; have hl2 := BF2.lt))
    all_goals
      go_wp2
      go_meet
      case rel =>
        have hlA := BA.lt
        simp at hga
        refine ⟨ga, ka, qa, gc, kc, qc, ⟨below_set2 (by (repeat' (first | (with_reducible exact Below.refl _ _) | (with_reducible assumption) | (with_reducible refine Below.next ?_ (by with_reducible assumption)) | (with_reducible refine Below.drew ?_) | (with_reducible refine Below.laid ?_ _) | (with_reducible refine Below.setCell ?_ ?_ _) | (with_reducible refine size_of ?_) | (with_reducible refine Nat.le_succ_of_le ?_) | go_size))) (Nat.le_refl _) _ _, BF2.set2 _ _, (BR2.far (p := ⟨w.heap.size, 0, none⟩) (by simp) _).far (p := ⟨w.heap.size, 1, none⟩) (by simp) _, (BA2.far (p := ⟨w.heap.size, 0, none⟩) (by show ¬ ga = w.heap.size; omega) _).far (p := ⟨w.heap.size, 1, none⟩) (by show ¬ ga = w.heap.size; omega) _, hka3,
          by rw [hka4]; rfl, rfl, (fun x hx => by cases hx), (fun x hx => by cases hx), (BC.far (p := ⟨w.heap.size, 0, none⟩) (by show ¬ gc = w.heap.size; omega) _).far (p := ⟨w.heap.size, 1, none⟩) (by show ¬ gc = w.heap.size; omega) _, by omega, by omega⟩, hka1, hka2, hkc1, hkc2, hkc3, hkc4⟩
  case rest =>
    obtain ⟨ga, ka, qa, gc, kc, qc, HI, hka1, hka2, hkc1, hkc2, hkc3, hkc4⟩ := hcut
    have HE := Lib.hid (And.intro hkc3 hkc4)
    have HI0 := Lib.hid HI
    obtain ⟨⟨d0, d1⟩, _⟩ := HI.box.cells2
    clear hkc3 hkc4 HI BF BR
    go_upto_region 3 with (fail)
    go_loopw [16] (fun i wr => ∃ (k : Nat) (p1 : List AV) (cur : Array Value), k ≤ p.length ∧ i = .int .i64 k ∧ OwnAt w wr p p1 (.slice (some ⟨ga, 0, none⟩) p.length ka) (.slice (some ⟨gc, 0, none⟩) c.length kc) ga ka gc qc cur k)
      (fun i _ => p.length - (intOf i).toNat)
    case atStart => exact ⟨0, [], qa, Nat.zero_le _, rfl, HI0.out⟩
    case round =>
      obtain ⟨k, p1, cur, hk, rfl, hAt⟩ := hrel
      obtain ⟨wo, rfl⟩ : ∃ wo : World, wo = wr := ⟨_, rfl⟩
      have HAT := Lib.hid hAt
      obtain ⟨⟨b0, b1⟩, _⟩ := hAt.box.cells2
      have BB := hAt.box
      have BW := hAt.row
      have hblw := hAt.below
      have hlo := hAt.lo
      clear d0 d1 hAt
      have hbl := BB.lt
      have hwl := BW.lt
      by_cases hlt : k < p.length
      · obtain ⟨⟨⟨aw, aS, aT, an⟩, sv, tv⟩, hx⟩ : ∃ x : AV, p[k]? = some x := ⟨p[k], List.getElem?_eq_getElem hlt⟩
        obtain ⟨hs, ht⟩ := HPA.out _ (List.mem_of_getElem? hx)
        obtain ⟨hs12, ht12⟩ := HST.out ⟨aw, aS, aT, an⟩ (List.mem_map.2 ⟨_, List.mem_of_getElem? hx, rfl⟩)
        simp only at hs ht
        obtain ⟨sA, sN, rfl, hs'⟩ := hs
        obtain ⟨tA, tN, rfl, ht'⟩ := ht
        have HSS := Lib.hid (show IsInts w (.slice sA aS.length sN) aS from ⟨sA, sN, rfl, hs'⟩)
        have HTT := Lib.hid (show IsInts w (.slice tA aT.length tN) aT from ⟨tA, tN, rfl, ht'⟩)
        obtain ⟨q0, q1, q2, q3⟩ := HAT.out.cur hx
        simp only at q0 q1 q2 q3 hs12 ht12
        have r0 := (BW.cell (k * 4)).trans q0
        have r1 := (BW.cell (k * 4 + 1)).trans q1
        have r2 := (BW.cell (k * 4 + 2)).trans q2
        have r3 := (BW.cell (k * 4 + 3)).trans q3
        have HQ := Lib.hid (And.intro q1 q2)
        have HX := Lib.hid hx
        have hk1 : (k : Int) < (p.length : Int) := by omega
        have hk0 : (0 : Int) ≤ (k : Int) := by omega
        clear hs' ht' hx q0 q1 q2 q3
        have hn1 : ¬ w.heap.size = ga := by omega
        have hn2 : ¬ ga = w.heap.size := by omega
        have hn3 : ¬ wo.heap.size = ga := by omega
        have hn4 : ¬ ga = wo.heap.size := by omega
        have hn5 : ¬ k * 4 + 2 = k * 4 + 1 := by omega
        go_wp2_with fail
        have BX := Blk.new wo 42 #[.int .i64 aw, .slice sA aS.length sN, .slice tA aT.length tN, .int .i64 an]
        have BB0 := BB.alloc (.cells #[.int .i64 aw, .slice sA aS.length sN, .slice tA aT.length tN, .int .i64 an] 42)
        have BW0 := BW.alloc (.cells #[.int .i64 aw, .slice sA aS.length sN, .slice tA aT.length tN, .int .i64 an] 42)
        go_region_held3 (fun w' => w'.cell? ⟨w.heap.size, 0, none⟩ = some (.slice (some ⟨ga, 0, none⟩) p.length ka) ∧ w'.cell? ⟨wo.heap.size, 1, none⟩ = some (.slice sA aS.length sN) ∧ w'.cell? ⟨wo.heap.size, 2, none⟩ = some (.slice tA aT.length tN))
          (first | with_reducible exact held_own BB0 BX | with_reducible exact held_own BB0.drew BX.drew | with_reducible exact held_own BB1 BX1 | with_reducible exact held_own BB2 BX2 | exact held_own (BB2.far (p := ⟨ga, k * 4 + 1, none⟩) hn1 _) (BX2.far (p := ⟨ga, k * 4 + 1, none⟩) hn3 _) | exact held_own ((BB2.far (p := ⟨ga, k * 4 + 1, none⟩) hn1 _).far (p := ⟨ga, k * 4 + 2, none⟩) hn1 _) ((BX2.far (p := ⟨ga, k * 4 + 1, none⟩) hn3 _).far (p := ⟨ga, k * 4 + 2, none⟩) hn3 _))
          (first
          | (go_at_call 101; revert HOS; intro HOS; refine (clone_ints _ aT _ (HTT.out.keep (by (repeat' (first | (with_reducible exact Below.refl _ _) | (with_reducible assumption) | (with_reducible refine Below.next ?_ (by with_reducible assumption)) | (with_reducible refine Below.drew ?_) | (with_reducible refine Below.laid ?_ _) | (with_reducible refine Below.setCell ?_ ?_ _) | (with_reducible refine size_of ?_) | (with_reducible refine Nat.le_succ_of_le ?_) | go_size)))) (by omega)).mono ?_; rintro e w2 ⟨v2, rfl, hb2, hown2⟩; obtain ⟨VA2, vc2, rfl⟩ := ownsRow_slice hown2
             have BB2 := BB1.keep hb2; have BW2 := BW1.keep hb2; have BX2 := BX1.keep hb2; have HOT := Lib.hid hown2
             obtain ⟨⟨y0, y1⟩, _⟩ := BB2.cells2; have y2 := (BW2.cell (k * 4 + 1)).trans HQ.out.1; have y3 := (BW2.cell (k * 4 + 2)).trans HQ.out.2; have y4 := BW2.frozen (k * 4 + 1); have y5 := BW2.frozen (k * 4 + 2); have y6 := BB2.lt; have y7 := BW2.lt; have y8 := BX2.lt)
          | (go_at_call 101; refine (clone_ints _ aS _ (HSS.out.keep (by (repeat' (first | (with_reducible exact Below.refl _ _) | (with_reducible assumption) | (with_reducible refine Below.next ?_ (by with_reducible assumption)) | (with_reducible refine Below.drew ?_) | (with_reducible refine Below.laid ?_ _) | (with_reducible refine Below.setCell ?_ ?_ _) | (with_reducible refine size_of ?_) | (with_reducible refine Nat.le_succ_of_le ?_) | go_size)))) (by omega)).mono ?_; rintro e w1 ⟨v1, rfl, hb1, hown1⟩; obtain ⟨VA1, vc1, rfl⟩ := ownsRow_slice hown1
             have HOS := Lib.hid hown1
             first
             | (have BB1 := BB0.keep hb1; have BW1 := BW0.keep hb1; have BX1 := BX.keep hb1)
             | (have BB1 := BB0.drew.keep hb1; have BW1 := BW0.drew.keep hb1; have BX1 := BX.drew.keep hb1)
             have x6 := BB1.lt; have x7 := BW1.lt; have x8 := BX1.lt))
        all_goals
          go_wp2
          go_roundw
          case rel =>
            refine ⟨k + 1, _, _, by omega, by go_num, HAT.out.step HX.out ?_ ?_ ?_ ?_ ?_⟩
            · (repeat' (first | (with_reducible exact Below.refl _ _) | (with_reducible assumption) | (with_reducible refine Below.next ?_ (by with_reducible assumption)) | (with_reducible refine Below.drew ?_) | (with_reducible refine Below.laid ?_ _) | (with_reducible refine Below.setCell ?_ ?_ _) | (with_reducible refine size_of ?_) | (with_reducible refine Nat.le_succ_of_le ?_) | go_size))
            · exact (IsInts.of_own HOS.out).keep hb2
            · exact IsInts.of_own HOT.out
            · intro b e
              have := (HOS.out.lt b e).1
              simp at this
              omega
            · intro b e
              have h1 := (HOT.out.lt b e).1
              have h2 := hb1.size
              simp at h2
              omega
          case measure => simp [intOf]; omega
      · have hk' : k = p.length := by omega
        subst hk'
        obtain ⟨HF, hmap⟩ := HAT.out.post hka1 hka2 hkc1 hkc2 HE.out.1 HE.out.2
        have HFF := Lib.hid (And.intro HF hmap)
        have BR := HAT.out.res
        obtain ⟨⟨e0, e1⟩, f0, f1⟩ := BR.cells2
        have GL := below_set2 HAT.out.below (show w.heap.size ≤ w.heap.size + 1 by omega) (.slice (some ⟨ga, 0, none⟩) p.length ka) (.slice (some ⟨gc, 0, none⟩) c.length kc)
        have GS := BR.set2 (.slice (some ⟨ga, 0, none⟩) p.length ka) (.slice (some ⟨gc, 0, none⟩) c.length kc)
        have GF := HF.but (((But.refl (fun b => b = w.heap.size + 1) wo).set_ (p := ⟨w.heap.size + 1, 0, none⟩) rfl (.slice (some ⟨ga, 0, none⟩) p.length ka)).set_ (p := ⟨w.heap.size + 1, 1, none⟩) rfl (.slice (some ⟨gc, 0, none⟩) c.length kc)) (by omega)
        clear HF hmap HI0
        go_wp2
        clear e0 e1 f0 f1
        revert GL GS GF
        generalize World.setCell _ _ _ = Wf
        intro GL GS GF
        obtain ⟨⟨e0, e1⟩, _⟩ := GS.cells2
        refine bodyPost_ret (v := .agg #[.slice (some ⟨ga, 0, none⟩) p.length ka, .slice (some ⟨gc, 0, none⟩) c.length kc]) (by simp [results, Tryz.results83, go_sem, e0, e1]) rfl ⟨p1, ga, ka, gc, kc, ?_, GL, HFF.out.2, ?_⟩
        · simp
        · simpa using GF.mono (by omega)
end Go.Proofs.YtlpfbdejiifbpaaGreatDoor

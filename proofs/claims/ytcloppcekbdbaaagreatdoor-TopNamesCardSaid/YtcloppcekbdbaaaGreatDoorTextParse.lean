/-
  A ROW OF ATOMS OF THE CALL'S OWN, whose terms lie elsewhere; THE WALK of text.Parse.
-/
import Derived.Test.YtcloppcekbdbaaaGreatDoorTextCode
import Derived.Test.YtcloppcekbdbaaaGreatDoorParseAtom
import Derived.Test.YtcloppcekbdbaaaGreatDoorOwnG
import Derived.Test.YtcloppcekbdbaaaGreatDoorSpanG
import Derived.Test.YtcloppcekbdbaaaGreatDoorLogAlone
namespace Go.Proofs.YtcloppcekbdbaaaGreatDoor
open Go.RowKit Go.ChangeShapes

/-- A row of atoms of the call's own; the rows of their terms lie elsewhere. -/
structure OwnP (base : Nat) (w : World) (v : Value) (p : List AV) : Prop where
  own : w.ownsRow base 32 4 v p.length (aCells p)
  ok : AOk w p
  far : ∀ x ∈ p, (x.1.s ≠ [] → ∀ b, x.2.1.ownBlock = some b → v.ownBlock ≠ some b) ∧ (x.1.t ≠ [] → ∀ b, x.2.2.ownBlock = some b → v.ownBlock ≠ some b)
theorem OwnP.nil (base : Nat) (w : World) : OwnP base w (.slice none 0 0) [] := ⟨World.ownsRow_nil _ _ _ _, (fun x hx => by cases hx), fun x hx => by cases hx⟩
theorem OwnP.but {base : Nat} {C : Nat → Prop} {w w' : World} {v : Value} {p : List AV} (h : OwnP base w v p) (hb : But C w w') (hv : ∀ b, v.ownBlock = some b → ¬ C b)
    (hp : ∀ x ∈ p, (x.1.s ≠ [] → ∀ b, x.2.1.ownBlock = some b → ¬ C b) ∧ (x.1.t ≠ [] → ∀ b, x.2.2.ownBlock = some b → ¬ C b)) : OwnP base w' v p :=
  ⟨own_but h.own hb hv, fun x hx => ⟨(h.ok x hx).1.but' hb (hp x hx).1, (h.ok x hx).2.but' hb (hp x hx).2⟩, h.far⟩
theorem OwnP.keep {base : Nat} {w w' : World} {v : Value} {p : List AV} (h : OwnP base w v p) (hb : Below w.heap.size w w') : OwnP base w' v p :=
  h.but (C := fun _ => False) (But.of_below hb) (fun _ _ => id) (fun _ _ => ⟨fun _ _ _ => id, fun _ _ _ => id⟩)
theorem OwnP.atoms {base : Nat} {w : World} {v : Value} {p : List AV} (h : OwnP base w v p) : IsAtoms w v (p.map (fun x : AV => x.1)) := atoms_of_own h.own h.ok
theorem OwnP.slice {base : Nat} {w : World} {v : Value} {p : List AV} (h : OwnP base w v p) : ∃ A c, v = .slice A p.length c := ownsRow_slice h.own
/-- A store into a block of two slices. -/
theorem OwnP.fset {base : Nat} {w : World} {v : Value} {p : List AV} {g : Nat} {t : TypeId} {A1 A2 : Option Addr} {n1 n2 c1 c2 : Nat} (h : OwnP base w v p) (hB : Blk w g t #[.slice A1 n1 c1, .slice A2 n2 c2]) (hg : g < base) (i : Nat) (x : Value) : OwnP base (w.setCell ⟨g, i, none⟩ x) v p := by
  refine ⟨own_but (C := fun b => b = g) h.own (But.set_ (C := fun b => b = g) (But.refl (fun b => b = g) w) (p := ⟨g, i, none⟩) rfl x) (fun b e hc => ?_), fun y hy => ⟨(h.ok y hy).1.fset hB i x, (h.ok y hy).2.fset hB i x⟩, h.far⟩
  have := (h.own.lt b e).1
  omega
/-- One more. -/
theorem OwnP.step {base : Nat} {w w' : World} {v v' : Value} {p : List AV} (h : OwnP base w v p) {y : AV} (hg : w.grownBy w' v.ownBlock) (hown : w'.ownsRow base 32 4 v' (p.length + 1) (aCells p ++ aCells [y]))
    (hat : v'.ownBlock = v.ownBlock ∨ v'.ownBlock = some w.heap.size) (hy : IsInts w y.2.1 y.1.s ∧ IsInts w y.2.2 y.1.t)
    (hf : (y.1.s ≠ [] → ∀ b, y.2.1.ownBlock = some b → v.ownBlock ≠ some b) ∧ (y.1.t ≠ [] → ∀ b, y.2.2.ownBlock = some b → v.ownBlock ≠ some b)) : OwnP base w' v' (p ++ [y]) := by
  have hbut : But (fun b => v.ownBlock = some b) w w' := But.of_grown hg
  have hok : AOk w (p ++ [y]) := fun x hx => by
    rcases List.mem_append.1 hx with hx | hx
    · exact h.ok x hx
    · rw [List.mem_singleton.1 hx]; exact hy
  have hfar : ∀ x ∈ p ++ [y], (x.1.s ≠ [] → ∀ b, x.2.1.ownBlock = some b → v.ownBlock ≠ some b) ∧ (x.1.t ≠ [] → ∀ b, x.2.2.ownBlock = some b → v.ownBlock ≠ some b) := fun x hx => by
    rcases List.mem_append.1 hx with hx | hx
    · exact h.far x hx
    · rw [List.mem_singleton.1 hx]; exact hf
  refine ⟨?_, fun x hx => ⟨(hok x hx).1.but' hbut (hfar x hx).1, (hok x hx).2.but' hbut (hfar x hx).2⟩, fun x hx => ⟨fun hl b hb => ?_, fun hl b hb => ?_⟩⟩
  · rw [List.length_append, aCells_app]
    exact hown
  · rcases hat with h' | h'
    · rw [h']; exact (hfar x hx).1 hl b hb
    · rw [h']
      intro e
      injection e with e
      have := ints_lt (hok x hx).1 hl hb
      omega
  · rcases hat with h' | h'
    · rw [h']; exact (hfar x hx).2 hl b hb
    · rw [h']
      intro e
      injection e with e
      have := ints_lt (hok x hx).2 hl hb
      omega
set_option maxRecDepth 100000 in
/-- append(row, a): one atom onto a row of the call's own. -/
theorem wpList_appA1 {ops : Array Oper} {rest : List Oper} {o : Oper} {a : Act} {Q : Exit → Act → World → Prop} (w : World) (hgd : o.guard = none) (s x : Operand)
    (ho : o.op = .call { callee := .builtin .append, args := #[s, x], argTypes := #[22, 22] })
    (base : Nat) (v : Value) (p : List AV) (hs : a.eval s = v) (hown : OwnP base w v p)
    (g c : Nat) (y : AV) (hx : a.eval x = .slice (some ⟨g, 0, none⟩) 1 c) (hB : Blk w g 32 #[.int .i64 y.1.what, y.2.1, y.2.2, .int .i64 y.1.n]) (hy : IsInts w y.2.1 y.1.s ∧ IsInts w y.2.2 y.1.t)
    (hf : (y.1.s ≠ [] → ∀ b, y.2.1.ownBlock = some b → v.ownBlock ≠ some b) ∧ (y.1.t ≠ [] → ∀ b, y.2.2.ownBlock = some b → v.ownBlock ≠ some b)) (hn : p.length < 4294967296) (hbase : base ≤ w.heap.size)
    (h : ∀ v' w', OwnP base w' v' (p ++ [y]) → w.grownBy w' v.ownBlock → wpList Tryz.prog ops Q rest (a.put o.dst v') w') : wpList Tryz.prog ops Q (o :: rest) a w := by
  obtain ⟨i0, hi, hz0, hz1, hz2⟩ := info_parts atom_info
  refine wpList_append_own_at w hgd s x _ ho base _ i0 _ 4 64 Tryz.underlying22 hi hz0 hz1 hz2 rfl (by decide) v p.length (aCells p) hs hown.own ⟨g, 0, none⟩ 1 c (aCells [y]) hx (aCells_len [y]) ?_ (aCells_one (w := w) (p := [y]) (fun z hz => by rw [List.mem_singleton.1 hz]; exact hy)) (by unfold maxLen; omega) (by omega) hbase (fun v' w' h1 h2 _ h4 => h v' w' (hown.step h2 h1 h4 hy hf) h2)
  intro j u hj
  exact World.news_of_block (cs := #[.int .i64 y.1.what, y.2.1, y.2.2, .int .i64 y.1.n]) hB j u hj
theorem fresh_far {base : Nat} {w : World} {v : Value} {p : List AV} (h : OwnP base w v p) {A : Option Addr} {n c : Nat} (hf : FreshV w (.slice A n c)) : ∀ b, (Value.slice A n c).ownBlock = some b → v.ownBlock ≠ some b := by
  intro b hb e
  have h1 := (h.own.lt b e).2
  cases A with
  | none => cases hb
  | some ad =>
    have := hf ad n c rfl
    simp only [Value.ownBlock] at hb
    injection hb with hb
    omega
/-- A formula, and what is wrong with it. -/
def FormGiven (f : Venn.Form) (e : Int) (w : World) (x : Ending) (w' : World) : Prop :=
  ∃ A n c A' n' c', x = .returned (.tuple #[.agg #[.slice A n c, .slice A' n' c'], errV e]) ∧ Below w.heap.size w w' ∧ IsAtoms w' (.slice A n c) f.atoms ∧ IsInts w' (.slice A' n' c') f.code
theorem lines_max {s : ByteArray} (hs : s.size < 4294967281) : Lib.countB s ⟨#[10]⟩ < 4294967281 := Nat.lt_of_le_of_lt (Lib.countB_le ⟨#[10]⟩ (by decide) s.size s (Nat.le_refl _)) hs
theorem lines_len (s : ByteArray) : (linesOf s).length = Lib.countB s ⟨#[10]⟩ + 1 := Lib.splitB_all ⟨#[10]⟩ (by decide) 0 (Lib.countB s ⟨#[10]⟩) s rfl
theorem lines_size {s : ByteArray} (hs : s.size < 4294967281) : ∀ x ∈ linesOf s, x.size < 4294967281 := fun x hx => Nat.lt_of_le_of_lt (splitB_size _ _ s x hx) hs
theorem lines_at {w : World} {l : List ByteArray} {T : TypeId} : WordsAt (w.alloc (.cells (l.map Value.string).toArray T)) w.heap.size l := by
  intro j x hj
  rw [World.cell?_alloc_at _ _ _ _ (by simp)]
  simp [hj]
theorem getD_sizeT {ws : List ByteArray} {N : Nat} (h : ∀ x ∈ ws, x.size < N) (h0 : 0 < N) (k : Nat) : (ws.getD k ⟨#[]⟩).size < N := by
  by_cases hk : k < ws.length
  · rw [List.getD, List.getElem?_eq_getElem hk]; exact h _ (List.getElem_mem hk)
  · rw [List.getD, List.getElem?_eq_none (by omega)]; exact h0
theorem linesErr_snoc : ∀ (l : List ByteArray) (x : ByteArray), linesErr l = 0 → linesErr (l ++ [x]) = parseAChk (readA (wordsOf x))
  | [], x, _ => by
    rw [List.nil_append, linesErr]
    split
    · rename_i h; rw [h]; rfl
    · rfl
  | y :: r, x, h => by
    unfold linesErr at h
    split at h
    · rename_i h0
      rw [List.cons_append, linesErr, if_pos h0, linesErr_snoc r x h]
    · rename_i h0; exact absurd h h0
theorem linesErr_app : ∀ (l m : List ByteArray), linesErr l ≠ 0 → linesErr (l ++ m) = linesErr l
  | [], m, h => absurd rfl h
  | y :: r, m, h => by
    unfold linesErr at h ⊢
    split at h
    · rename_i h0
      rw [List.cons_append]
      show (if _ then linesErr (r ++ m) else _) = _
      rw [if_pos h0, if_pos h0, linesErr_app r m h]
    · rename_i h0
      rw [List.cons_append]
      show (if _ then linesErr (r ++ m) else _) = _
      rw [if_neg h0, if_neg h0]
theorem IsAtoms.fset2 {w : World} {g : Nat} {t : TypeId} {v : Value} {l : List Venn.Atom} {A1 A2 B1 B2 : Option Addr} {n1 n2 c1 c2 m1 m2 d1 d2 : Nat} (h : IsAtoms w v l) (hB : Blk w g t #[.slice A1 n1 c1, .slice A2 n2 c2]) : IsAtoms ((w.setCell ⟨g, 0, none⟩ (.slice B1 m1 d1)).setCell ⟨g, 1, none⟩ (.slice B2 m2 d2)) v l :=
  (h.fset hB 0 _).fset (A1 := B1) (n1 := m1) (c1 := d1) (by simpa using hB.set_ 0 (.slice B1 m1 d1)) 1 _
theorem IsInts.fset2 {w : World} {g : Nat} {t : TypeId} {v : Value} {l : List Int} {A1 A2 B1 B2 : Option Addr} {n1 n2 c1 c2 m1 m2 d1 d2 : Nat} (h : IsInts w v l) (hB : Blk w g t #[.slice A1 n1 c1, .slice A2 n2 c2]) : IsInts ((w.setCell ⟨g, 0, none⟩ (.slice B1 m1 d1)).setCell ⟨g, 1, none⟩ (.slice B2 m2 d2)) v l :=
  (h.fset hB 0 _).fset (A1 := B1) (n1 := m1) (c1 := d1) (by simpa using hB.set_ 0 (.slice B1 m1 d1)) 1 _
theorem blk2_frozen {w : World} {g : Nat} {t : TypeId} {x0 x1 : Value} (h : Blk w g t #[x0, x1]) : w.frozen? ⟨g, 0, none⟩ = false ∧ w.frozen? ⟨g, 1, none⟩ = false := ⟨h.frozen 0, h.frozen 1⟩
set_option maxHeartbeats 8000000 in
set_option maxRecDepth 100000 in
theorem text_Parse (s : ByteArray) (w : World) (hs : s.size < 4294967281) (hw : WordsOk w) (hk : KindsOk w) (ht : TabOk w) (he : ErrsOk w) (hm : MaxOk w) :
    Calls Tryz.prog 33 #[.string s] w (FormGiven (formV s) (formErr s) w) := by
  have HSP := Lib.hid (fun W (hW : Below w.heap.size w W) => show Calls Tryz.prog 78 #[.string s, .string ⟨#[10]⟩] W (fun e w' => e = .returned (.slice (some ⟨W.heap.size, 0, none⟩) (Lib.countB s ⟨#[10]⟩ + 1) (Lib.countB s ⟨#[10]⟩ + 1)) ∧ w' = W.alloc (.cells ((linesOf s).map Value.string).toArray 9)) from strings_Split s ⟨#[10]⟩ W (hm.keep hW) hs (by decide))
  have HLL := Lib.hid (lines_len s)
  have HLM := Lib.hid (lines_max hs)
  have HLS := Lib.hid (lines_size hs)
  have HCO := Lib.hid (fun x (hx : x.size < 4294967281) W (hW : Below w.heap.size w W) => text_code x W hx (hw.keep hW) (hm.keep hW))
  have HPA := Lib.hid (fun x (hx : x.size < 4294967281) W (hW : Below w.heap.size w W) => atom_ParseF x W hx (hk.keep hW) (ht.keep hW) (he.keep hW) (hm.keep hW))
  have HFC := Lib.hid (fun sa sc l c W (hW : Below w.heap.size w W) (ha : IsAtoms W sa l) (hc : IsInts W sc c) => form_Check sa sc l c W ha hc (hk.keep hW))
  clear hs hw hk ht he hm
  unfold formV formErr
  generalize linesOf s = ls at HSP HLL HLS ⊢
  generalize Lib.countB s ⟨#[10]⟩ = N1 at HSP HLL HLM
  have hal0 : Below w.heap.size w (w.alloc (.cells #[.slice none 0 0, .slice none 0 0] 38)) := by (repeat' (first | (with_reducible exact Below.refl _ _) | (with_reducible assumption) | (with_reducible refine Below.next ?_ (by with_reducible assumption)) | (with_reducible refine Below.drew ?_) | (with_reducible refine Below.laid ?_ _) | (with_reducible refine Below.setCell ?_ ?_ _) | (with_reducible refine size_of ?_) | (with_reducible refine Nat.le_succ_of_le ?_) | go_size))
  have BR0 := Lib.hid (Blk.new w 38 #[.slice none 0 0, .slice none 0 0])
  have hErr := Lib.hid (show formErrL ls = if ls.length < 2 ∨ wordAt ls (ls.length - 1) ≠ [] then 2 else match codeO (Venn.cutL 32 (lastLine ls).data.toList) with | none => 2 | some c => if linesErr (ls.take (ls.length - 2)) = 0 then Venn.formChk ⟨linesV (ls.take (ls.length - 2)), c⟩ else linesErr (ls.take (ls.length - 2)) from rfl)
  have hVal := Lib.hid (show formVL ls = if formErrL ls = 0 then ⟨linesV (ls.take (ls.length - 2)), (codeO (Venn.cutL 32 (lastLine ls).data.toList)).getD []⟩ else ⟨[], []⟩ from rfl)
  generalize formErrL ls = E at hErr hVal ⊢
  generalize formVL ls = V at hVal ⊢
  obtain ⟨Va, Vc⟩ := V
  cases N1 with
  | zero =>
    have HE := Lib.hid (show E = 2 by rw [hErr.out, if_pos (.inl (by have := HLL.out; omega))])
    have HV := Lib.hid (show (⟨Va, Vc⟩ : Venn.Form) = ⟨[], []⟩ by rw [hVal.out, HE.out] <;> rfl)
    obtain ⟨rfl, rfl⟩ : Va = [] ∧ Vc = [] := by have := HV.out; injection this with a b; exact ⟨a, b⟩
    clear HV hErr hVal
    go_enter Tryz.func33, Tryz.ntmps33
    go_upto_region 1 with (fail)
    revert hal0 BR0
    generalize w.alloc (.cells #[.slice none 0 0, .slice none 0 0] 38) = w0
    intro hal0 BR0
    go_wp2_with fail
    refine (HSP.out w0 hal0).mono ?_
    rintro e w1 ⟨rfl, hw1⟩
    have hb1 : Below w0.heap.size w0 w1 := by rw [hw1]; exact (Below.refl _ _).alloc (Nat.le_refl _) _
    clear hw1
    have BR1 := BR0.out.keep hb1
    have hq1 := Below.next hal0 hb1
    obtain ⟨⟨r0, r1⟩, q0, q1⟩ := BR1.cells2
    have GL := Lib.hid (below_set2 hq1 (Nat.le_refl _) (.slice none 0 0) (.slice none 0 0))
    have GS := Lib.hid (BR1.set2 (.slice none 0 0) (.slice none 0 0))
    clear BR1 hb1 hal0 hq1
    go_wp2
    clear r0 r1 q0 q1
    revert GL GS
    generalize World.setCell _ _ _ = Wf
    intro GL GS
    obtain ⟨⟨e0, e1⟩, _⟩ := GS.out.cells2
    refine bodyPost_ret (v := .tuple #[.agg #[.slice none 0 0, .slice none 0 0], .iface 92 (.int .i64 2)]) (by simp [results, Tryz.results33, go_sem, e0, e1]) rfl ?_
    exact ⟨none, 0, 0, none, 0, 0, by rw [HE.out, errV_ne (by decide)], GL.out, IsAtoms.nil _, IsInts.empty _⟩
  | succ N =>
    have hN := HLM.out
    have hlen : ls.length = N + 2 := by have := HLL.out; omega
    have hsub : ls.length - 2 = N := by omega
    rw [hsub] at hVal hErr
    have HLast := Lib.hid (show lastLine ls = ls.getD N ⟨#[]⟩ by unfold lastLine; rw [hsub])
    have HEnd := Lib.hid (show wordAt ls (ls.length - 1) = (ls.getD (N + 1) ⟨#[]⟩).data.toList by unfold wordAt; rw [hlen]; rfl)
    rw [HEnd.out, HLast.out] at hErr
    rw [HLast.out] at hVal
    have HAT := Lib.hid (show ∀ (W : World), ∀ j, j < N + 2 → (W.alloc (.cells (ls.map Value.string).toArray 9)).cell? ⟨W.heap.size, j, none⟩ = some (.string (ls.getD j ⟨#[]⟩)) from fun W j hj => lines_at (T := 9) (w := W) j _ (by rw [List.getD, List.getElem?_eq_getElem (by omega)]; rfl))
    have HSN := Lib.hid (getD_sizeT HLS.out (by decide))
    have hnl : ¬ ls.length < 2 := by omega
    clear HLL HLM HLast HEnd hsub
    have hx1 : IntKind.i64.wrap (((N + 1 + 1 : Nat) : Int) - 2) = (N : Int) := by rw [show ((N + 1 + 1 : Nat) : Int) - 2 = (N : Int) by omega]; exact IntWalk.i64_in _ (by omega)
    have hx1' : IntKind.i64.wrap ((N : Int) + 1 + 1 - 2) = (N : Int) := by rw [show (N : Int) + 1 + 1 - 2 = (N : Int) by omega]; exact IntWalk.i64_in _ (by omega)
    have hx2 : IntKind.i64.wrap ((N : Int) + 1) = (N : Int) + 1 := IntWalk.i64_in _ (by omega)
    have hN0 : ¬ (N : Int) < 0 := by omega
    go_enter Tryz.func33, Tryz.ntmps33
    go_upto_region 1 with (fail)
    revert hal0 BR0
    generalize w.alloc (.cells #[.slice none 0 0, .slice none 0 0] 38) = w0
    intro hal0 BR0
    go_wp2_with fail
    refine (HSP.out w0 hal0).mono ?_
    rintro e w1 ⟨rfl, hw1⟩
    have HWC := Lib.hid (show ∀ j, j < N + 2 → w1.cell? ⟨w0.heap.size, j, none⟩ = some (.string (ls.getD j ⟨#[]⟩)) by rw [hw1]; exact HAT.out w0)
    have hb1 : Below w0.heap.size w0 w1 := by rw [hw1]; exact (Below.refl _ _).alloc (Nat.le_refl _) _
    clear hw1 HSP HAT
    have BR1 := Lib.hid (BR0.out.keep hb1)
    have HQ1 := Lib.hid (Below.next hal0 hb1)
    have HW1 := Lib.hid (show w.heap.size < w1.heap.size from BR1.out.lt)
    clear BR0 hb1 hal0
    have cl := HWC.out (N + 1) (by omega)
    have cl' : w1.cell? ⟨w0.heap.size, N, none⟩ = some (.string (ls.getD N ⟨#[]⟩)) := HWC.out N (by omega)
    generalize ls.getD (N + 1) ⟨#[]⟩ = XE at cl hErr
    have HXL := Lib.hid (HSN.out N)
    generalize ls.getD N ⟨#[]⟩ = XL at cl' hErr hVal HXL
    by_cases hxe : XE.data.toList = []
    · obtain rfl := bytes_eq hxe
      have q0 : ((⟨#[]⟩ : ByteArray) != ⟨#[]⟩) = false := by decide
      have HE1 := Lib.hid (show E = match codeO (Venn.cutL 32 XL.data.toList) with | none => 2 | some c => if linesErr (ls.take N) = 0 then Venn.formChk ⟨linesV (ls.take N), c⟩ else linesErr (ls.take N) by
        rw [hErr.out, if_neg]
        intro h
        rcases h with h | h
        · exact hnl h
        · exact h rfl)
      have HCD := Lib.hid (HCO.out XL HXL.out w1 HQ1.out)
      clear hErr hxe
      generalize codeO (Venn.cutL 32 XL.data.toList) = O at HCD HE1 hVal
      go_upto_region 5 with (fail)
      clear cl
      go_wp2_with fail
      refine (HCD.out).mono ?_
      rintro e w2 ⟨A, n, c, rfl, hb2, hC⟩
      have HB2 := Lib.hid hb2
      clear hb2 cl'
      cases O with
      | none =>
        have HE := Lib.hid (show E = 2 from HE1.out)
        have hs : (none : Option (List Int)).isSome = false := rfl
        rw [hs]
        have BRk := BR1.out.keep HB2.out
        have HBk := Below.next HQ1.out HB2.out
        obtain ⟨⟨r0, r1⟩, q0, q1⟩ := BRk.cells2
        have GL := Lib.hid (below_set2 HBk (Nat.le_refl _) (.slice none 0 0) (.slice none 0 0))
        have GS := Lib.hid (BRk.set2 (.slice none 0 0) (.slice none 0 0))
        clear BRk HBk
        go_wp2
        clear r0 r1 q0 q1
        revert GL GS
        generalize World.setCell _ _ _ = Wf
        intro GL GS
        obtain ⟨⟨e0, e1⟩, _⟩ := GS.out.cells2
        refine bodyPost_ret (v := .tuple #[.agg #[.slice none 0 0, .slice none 0 0], .iface 92 (.int .i64 (2))]) (by simp [results, Tryz.results33, go_sem, e0, e1]) rfl ?_
        have HV := Lib.hid (show (⟨Va, Vc⟩ : Venn.Form) = ⟨[], []⟩ by rw [hVal.out, HE.out, if_neg (by decide)])
        obtain ⟨rfl, rfl⟩ : Va = [] ∧ Vc = [] := by have := HV.out; injection this with a b; exact ⟨a, b⟩
        exact ⟨none, 0, 0, none, 0, 0, by rw [HE.out, errV_ne (by decide)], GL.out, IsAtoms.nil _, IsInts.empty _⟩
      | some cd =>
        have HE2 := Lib.hid (show E = if linesErr (ls.take N) = 0 then Venn.formChk ⟨linesV (ls.take N), cd⟩ else linesErr (ls.take N) from HE1.out)
        have HC := Lib.hid (hC cd rfl)
        have hs : (some cd : Option (List Int)).isSome = true := rfl
        rw [hs]
        clear hC HE1
        obtain ⟨n, rfl⟩ : ∃ m, m = n := ⟨_, rfl⟩
        have BF := Blk.new w2 38 #[.slice none 0 0, .slice A n c]
        have hal2 : Below w2.heap.size w2 (w2.alloc (.cells #[.slice none 0 0, .slice A n c] 38)) := (Below.refl _ _).alloc (Nat.le_refl _) _
        have hz2 : (w2.alloc (.cells #[.slice none 0 0, .slice A n c] 38)).heap.size = w2.heap.size + 1 := by simp
        go_upto_region 9 with (fail)
        revert BF hal2 hz2
        generalize w2.alloc (.cells #[.slice none 0 0, .slice A n c] 38) = w3
        intro BF hal2 hz2
        have HBF := Lib.hid BF
        have HZ2 := Lib.hid hz2
        have HAL := Lib.hid hal2
        clear BF hz2 hal2
        have hNle : (N : Int) ≤ (N : Int) + 1 + 1 := by omega
        have hNle2 : N ≤ N + 1 + 1 := by omega
        have hN00 : (0 : Int) ≤ (N : Int) := by omega
        go_wp2_with fail
        go_loopw [49] (fun i wr => ∃ (k : Nat) (p : List AV) (VA : Option Addr) (cA : Nat), k ≤ N ∧ i = .int .i64 k ∧ p.length = k ∧ Blk wr w2.heap.size 38 #[.slice VA k cA, .slice A n c] ∧ OwnP (w2.heap.size + 1) wr (.slice VA k cA) p ∧
            p.map (fun x : AV => x.1) = linesV (ls.take k) ∧ linesErr (ls.take k) = 0 ∧ Below w2.heap.size w2 wr) (fun i _ => N - (intOf i).toNat)
        case atStart => exact ⟨0, [], none, 0, Nat.zero_le _, rfl, rfl, HBF.out, OwnP.nil _ _, rfl, rfl, HAL.out⟩
        case round =>
          obtain ⟨k, p, VA, cA, hk, rfl, hpl, hF, hown, hpm, hle, hb⟩ := hrel
          obtain ⟨wo, rfl⟩ : ∃ wo : World, wo = wr := ⟨_, rfl⟩
          have HF := Lib.hid hF
          have HO := Lib.hid hown
          have HPM := Lib.hid hpm
          have HPL := Lib.hid hpl
          have HLE := Lib.hid hle
          have HB := Lib.hid (Below.next HB2.out hb)
          have HBO := Lib.hid hb
          clear hF hown hpm hpl hle hb
          by_cases hlt : k < N
          · have hk1 : (k : Int) < (N : Int) := by omega
            have hk0 : (0 : Int) ≤ (k : Int) := by omega
            have hki : IntKind.i64.wrap ((k : Int) + 1) = (k : Int) + 1 := IntWalk.i64_in _ (by omega)
            have ck := cell_keep HB.out (HWC.out k (by omega))
            have HTK := Lib.hid (show ls.take (k + 1) = ls.take k ++ [ls.getD k ⟨#[]⟩] by rw [List.take_add_one, List.getD, List.getElem?_eq_getElem (by omega)]; rfl)
            have HXS := Lib.hid (HSN.out k)
            have HDR := Lib.hid (show ls.take N = ls.take (k + 1) ++ (ls.take N).drop (k + 1) by
              conv => lhs; rw [← List.take_append_drop (k + 1) (ls.take N)]
              rw [List.take_take, Nat.min_eq_left (by omega)])
            generalize ls.getD k ⟨#[]⟩ = X at ck HTK HXS
            have HPX := Lib.hid (HPA.out X HXS.out wo (Below.next HQ1.out HB.out))
            have HSN2 := Lib.hid (linesErr_snoc (ls.take k) X HLE.out)
            have HVX := Lib.hid (show linesV (ls.take k ++ [X]) = linesV (ls.take k) ++ [parseAV (readA (wordsOf X))] by unfold linesV; rw [List.map_append]; rfl)
            generalize parseAChk (readA (wordsOf X)) = EX at HPX HSN2
            generalize parseAV (readA (wordsOf X)) = VX at HPX HVX
            obtain ⟨xw, xs, xt, xm⟩ := VX
            go_wp2_with fail
            refine (HPX.out).mono ?_
            rintro e w4 ⟨XA, xn, xc, XB, yn, yc, rfl, hb4, hX, hY, fX, fY⟩
            dsimp only at hX hY ⊢
            clear ck
            by_cases hE : EX = 0
            · have HEX := Lib.hid hE
              rw [HEX.out, errV_zero rfl]
              have HB4 := Lib.hid hb4
              have HO4 := Lib.hid (HO.out.keep hb4)
              have HFR := Lib.hid (And.intro (fun (_ : xs ≠ []) => fresh_far HO.out fX) (fun (_ : xt ≠ []) => fresh_far HO.out fY))
              have hal4 : Below w4.heap.size w4 (w4.alloc (.cells #[.int .i64 xw, .slice XA xn xc, .slice XB yn yc, .int .i64 xm] 32)) := (Below.refl _ _).alloc (Nat.le_refl _) _
              have BX := Blk.new w4 32 #[.int .i64 xw, .slice XA xn xc, .slice XB yn yc, .int .i64 xm]
              have HX := Lib.hid (hX.keep hal4)
              have HY := Lib.hid (hY.keep hal4)
              clear hX hY fX fY hE
              go_upto_region 13 with (fail)
              clear hb4
              revert hal4 BX HX HY
              generalize w4.alloc (.cells #[.int .i64 xw, .slice XA xn xc, .slice XB yn yc, .int .i64 xm] 32) = w5
              intro hal4 BX HX HY
              have HB5 := Lib.hid (Below.next HB4.out hal4)
              have HO5 := Lib.hid (HO4.out.keep hal4)
              have BF5 := HF.out.keep HB5.out
              have HF5 := Lib.hid BF5
              obtain ⟨c0, c1, c2, c3⟩ := BX.cells4
              obtain ⟨⟨f0, f1⟩, g0, g1⟩ := BF5.cells2
              have hal5 : Below w5.heap.size w5 (w5.alloc (.cells #[.int .i64 xw, .slice XA xn xc, .slice XB yn yc, .int .i64 xm] 32)) := (Below.refl _ _).alloc (Nat.le_refl _) _
              have HA5 := Lib.hid hal5
              have HBR := Lib.hid (Blk.new w5 32 #[.int .i64 xw, .slice XA xn xc, .slice XB yn yc, .int .i64 xm])
              clear hal4 BX BF5 hal5
              go_wp2_with (at_builtin; refine wpList_appA1 _ rfl _ _ rfl (w2.heap.size + 1) (.slice VA k cA) p rfl (HO5.out.keep HA5.out) w5.heap.size 1 ((⟨xw, xs, xt, xm⟩ : Venn.Atom), .slice XA xn xc, .slice XB yn yc) rfl HBR.out ⟨HX.out.keep HA5.out, HY.out.keep HA5.out⟩ HFR.out (by have := HPL.out; omega) (by have h1 := HBO.out.size; have h2 := HB5.out.size; have h3 := HF.out.lt; simp; omega) ?_)
              intro v' w6 hown6 hg6
              obtain ⟨VB, cB, rfl⟩ := hown6.slice
              have hpl6 : (p ++ [((⟨xw, xs, xt, xm⟩ : Venn.Atom), Value.slice XA xn xc, Value.slice XB yn yc)]).length = k + 1 := by simp [HPL.out]
              rw [hpl6] at hown6 ⊢
              have hnF : some w2.heap.size ≠ (Value.slice VA k cA).ownBlock := fun e => by have := (HO5.out.own.lt _ e.symm).1; omega
              have BF6 := ((HF5.out.keep HA5.out).grown hg6 hnF)
              have HB6 := Lib.hid (show Below w2.heap.size w2 w6 from (Below.next HBO.out (Below.next HB5.out HA5.out)).grown hg6 (Below.next HBO.out (Below.next HB5.out HA5.out)).size (fun b e => by have := (HO5.out.own.lt b e).1; omega))
              have GF := Lib.hid (show Blk (w6.setCell ⟨w2.heap.size, 0, none⟩ (.slice VB (k + 1) cB)) w2.heap.size 38 #[.slice VB (k + 1) cB, .slice A n c] by simpa using BF6.set_ 0 (.slice VB (k + 1) cB))
              have GO := Lib.hid (hown6.fset BF6 (Nat.lt_succ_self _) 0 (.slice VB (k + 1) cB))
              have GB := Lib.hid (HB6.out.setCell (p := ⟨w2.heap.size, 0, none⟩) (Nat.le_refl _) (.slice VB (k + 1) cB))
              obtain ⟨⟨f0', f1'⟩, g0', g1'⟩ := BF6.cells2
              clear c0 c1 c2 c3 f0 f1 g0 g1 hown6 hg6 hpl6 hnF BF6
              go_wp2_with fail
              go_roundw
              case rel => exact ⟨k + 1, _, VB, cB, by omega, by go_num, by simp [HPL.out], GF.out, GO.out, by rw [HTK.out, HVX.out, ← HPM.out, List.map_append]; rfl, by rw [HTK.out, HSN2.out, HEX.out], GB.out⟩
              case measure => simp [intOf]; omega
            · have HNE := Lib.hid (errV_ne hE)
              rw [HNE.out]
              have HE := Lib.hid (show E = EX by
                have h1 : linesErr (ls.take (k + 1)) = EX := by rw [HTK.out, HSN2.out]
                have h2 : linesErr (ls.take N) = EX := by rw [HDR.out, linesErr_app _ _ (by rw [h1]; exact hE), h1]
                rw [HE2.out, h2, if_neg hE])
              have HBz := Lib.hid (Below.next HB.out hb4)
              have hal4 : Below w4.heap.size w4 (w4.alloc (.cells #[.int .i64 xw, .slice XA xn xc, .slice XB yn yc, .int .i64 xm] 32)) := (Below.refl _ _).alloc (Nat.le_refl _) _
              go_upto_region 13 with (fail)
              clear hb4 hX hY fX fY
              revert hal4
              generalize w4.alloc (.cells #[.int .i64 xw, .slice XA xn xc, .slice XB yn yc, .int .i64 xm] 32) = w5
              intro hal4
              have HBy := Lib.hid (Below.next HBz.out hal4)
              clear hal4
              have BRk := BR1.out.keep HBy.out
              have HBk := Below.next HQ1.out HBy.out
              obtain ⟨⟨r0, r1⟩, q0, q1⟩ := BRk.cells2
              have GL := Lib.hid (below_set2 HBk (Nat.le_refl _) (.slice none 0 0) (.slice none 0 0))
              have GS := Lib.hid (BRk.set2 (.slice none 0 0) (.slice none 0 0))
              clear BRk HBk
              go_wp2
              clear r0 r1 q0 q1
              revert GL GS
              generalize World.setCell _ _ _ = Wf
              intro GL GS
              obtain ⟨⟨e0, e1⟩, _⟩ := GS.out.cells2
              refine bodyPost_ret (v := .tuple #[.agg #[.slice none 0 0, .slice none 0 0], .iface 92 (.int .i64 (EX))]) (by simp [results, Tryz.results33, go_sem, e0, e1]) rfl ?_
              have HV := Lib.hid (show (⟨Va, Vc⟩ : Venn.Form) = ⟨[], []⟩ by rw [hVal.out, HE.out, if_neg hE])
              obtain ⟨rfl, rfl⟩ : Va = [] ∧ Vc = [] := by have := HV.out; injection this with a b; exact ⟨a, b⟩
              exact ⟨none, 0, 0, none, 0, 0, by rw [HE.out, errV_ne hE], GL.out, IsAtoms.nil _, IsInts.empty _⟩
          · have hk' : k = N := by omega
            subst hk'
            have hk1 : ¬ (k : Int) < (k : Int) := by omega
            have HIA := Lib.hid (show IsAtoms wo (.slice VA k cA) (linesV (ls.take k)) by rw [← HPM.out]; exact HO.out.atoms)
            have HIC := Lib.hid (HC.out.keep HBO.out)
            have HCK := Lib.hid (HFC.out _ _ _ _ wo (Below.next HQ1.out HB.out) HIA.out HIC.out)
            have HE3 := Lib.hid (show E = Venn.formChk ⟨linesV (ls.take k), cd⟩ by rw [HE2.out, if_pos HLE.out])
            obtain ⟨⟨f0, f1⟩, g0, g1⟩ := HF.out.cells2
            have HVE := Lib.hid (show (⟨Va, Vc⟩ : Venn.Form) = if E = 0 then ⟨linesV (ls.take k), cd⟩ else ⟨[], []⟩ from hVal.out)
            generalize linesV (ls.take k) = LV at HIA HCK HE3 HVE
            rw [← HE3.out] at HCK
            by_cases hE : E = 0
            · rw [hE, errV_zero rfl] at HCK
              obtain ⟨rfl, rfl⟩ : Va = LV ∧ Vc = cd := by have := HVE.out; rw [if_pos hE] at this; injection this with a b; exact ⟨a, b⟩
              have HEE := Lib.hid hE
              clear hE
              go_wp2_with fail
              refine (HCK.out).mono ?_
              rintro e w4 ⟨rfl, hb4⟩
              have HB4 := Lib.hid (Below.next HB.out hb4)
              have BF4 := HF.out.keep hb4
              have HIA4 := Lib.hid (HIA.out.keep hb4)
              have HIC4 := Lib.hid (HIC.out.keep hb4)
              clear f0 f1 g0 g1 hb4
              obtain ⟨⟨f0, f1⟩, g0, g1⟩ := BF4.cells2
              have BRk := BR1.out.keep HB4.out
              have HBk := Below.next HQ1.out HB4.out
              obtain ⟨⟨r0, r1⟩, q0', q1⟩ := BRk.cells2
              have GL := Lib.hid (below_set2 HBk (Nat.le_refl _) (.slice VA k cA) (.slice A n c))
              have GS := Lib.hid (BRk.set2 (.slice VA k cA) (.slice A n c))
              have GA := Lib.hid (IsAtoms.fset2 (B1 := VA) (m1 := k) (d1 := cA) (B2 := A) (m2 := n) (d2 := c) HIA4.out BRk)
              have GC := Lib.hid (IsInts.fset2 (B1 := VA) (m1 := k) (d1 := cA) (B2 := A) (m2 := n) (d2 := c) HIC4.out BRk)
              have nW := Nat.ne_of_lt HW1.out
              have nW2 : w.heap.size ≠ w2.heap.size := by have := HW1.out; have := HB2.out.size; omega
              clear BRk HBk BF4
              go_wp2
              clear f0 f1 g0 g1 r0 r1 q0' q1
              revert GL GS GA GC
              generalize World.setCell _ _ _ = Wf
              intro GL GS GA GC
              obtain ⟨⟨e0, e1⟩, _⟩ := GS.out.cells2
              refine bodyPost_ret (v := .tuple #[.agg #[.slice VA k cA, .slice A n c], .nilIface]) (by simp [results, Tryz.results33, go_sem, e0, e1]) rfl ?_
              exact ⟨VA, k, cA, A, n, c, by rw [HEE.out, errV_zero rfl], GL.out, GA.out, GC.out⟩
            · have HNE := Lib.hid (errV_ne hE)
              rw [HNE.out] at HCK
              go_wp2_with fail
              refine (HCK.out).mono ?_
              rintro e w4 ⟨rfl, hb4⟩
              have HB4 := Lib.hid (Below.next HB.out hb4)
              clear f0 f1 g0 g1 hb4
              have BRk := BR1.out.keep HB4.out
              have HBk := Below.next HQ1.out HB4.out
              obtain ⟨⟨r0, r1⟩, q0, q1⟩ := BRk.cells2
              have GL := Lib.hid (below_set2 HBk (Nat.le_refl _) (.slice none 0 0) (.slice none 0 0))
              have GS := Lib.hid (BRk.set2 (.slice none 0 0) (.slice none 0 0))
              clear BRk HBk
              go_wp2
              clear r0 r1 q0 q1
              revert GL GS
              generalize World.setCell _ _ _ = Wf
              intro GL GS
              obtain ⟨⟨e0, e1⟩, _⟩ := GS.out.cells2
              refine bodyPost_ret (v := .tuple #[.agg #[.slice none 0 0, .slice none 0 0], .iface 92 (.int .i64 (E))]) (by simp [results, Tryz.results33, go_sem, e0, e1]) rfl ?_
              have HV := Lib.hid (show (⟨Va, Vc⟩ : Venn.Form) = ⟨[], []⟩ by rw [HVE.out, if_neg hE])
              obtain ⟨rfl, rfl⟩ : Va = [] ∧ Vc = [] := by have := HV.out; injection this with a b; exact ⟨a, b⟩
              exact ⟨none, 0, 0, none, 0, 0, by rw [HNE.out], GL.out, IsAtoms.nil _, IsInts.empty _⟩
    · obtain ⟨b1, b2, b3⟩ := bytes_ne hxe
      have b4 : (XE.toList != ([] : List UInt8)) = true := by rw [bne, b2]; rfl
      have HE := Lib.hid (show E = 2 by rw [hErr.out, if_pos (.inr hxe)])
      have HBr := Lib.hid (Below.refl w1.heap.size w1)
      clear hErr cl'
      have BRk := BR1.out.keep HBr.out
      have HBk := Below.next HQ1.out HBr.out
      obtain ⟨⟨r0, r1⟩, q0, q1⟩ := BRk.cells2
      have GL := Lib.hid (below_set2 HBk (Nat.le_refl _) (.slice none 0 0) (.slice none 0 0))
      have GS := Lib.hid (BRk.set2 (.slice none 0 0) (.slice none 0 0))
      clear BRk HBk
      go_wp2
      clear r0 r1 q0 q1
      revert GL GS
      generalize World.setCell _ _ _ = Wf
      intro GL GS
      obtain ⟨⟨e0, e1⟩, _⟩ := GS.out.cells2
      refine bodyPost_ret (v := .tuple #[.agg #[.slice none 0 0, .slice none 0 0], .iface 92 (.int .i64 (2))]) (by simp [results, Tryz.results33, go_sem, e0, e1]) rfl ?_
      have HV := Lib.hid (show (⟨Va, Vc⟩ : Venn.Form) = ⟨[], []⟩ by rw [hVal.out, HE.out, if_neg (by decide)])
      obtain ⟨rfl, rfl⟩ : Va = [] ∧ Vc = [] := by have := HV.out; injection this with a b; exact ⟨a, b⟩
      exact ⟨none, 0, 0, none, 0, 0, by rw [HE.out, errV_ne (by decide)], GL.out, IsAtoms.nil _, IsInts.empty _⟩
end Go.Proofs.YtcloppcekbdbaaaGreatDoor

/-
  THE WALKS of cubes.do: a sign done to the row of lists of cubes; and of cubes.All, cubes.Of.
-/
import Derived.Test.YtlpfbdejiifbpaaGreatDoorCubes
import Derived.Deep.DeepAppendRoom
namespace Go.Proofs.YtlpfbdejiifbpaaGreatDoor
open Go.RowKit

/-- A list of cubes and the value of its slice. -/
abbrev LLV := List (List Int) × Value
def rCells (P : List LLV) : List Value := P.map fun x => x.2
def rVals (P : List LLV) : List (List (List Int)) := P.map fun x => x.1
theorem rCells_len (P : List LLV) : (rCells P).length = P.length := List.length_map _
theorem rVals_len (P : List LLV) : (rVals P).length = P.length := List.length_map _
theorem rCells_app (P Q : List LLV) : rCells (P ++ Q) = rCells P ++ rCells Q := List.map_append
theorem rVals_app (P Q : List LLV) : rVals (P ++ Q) = rVals P ++ rVals Q := List.map_append
/-- The row of lists. -/
structure OwnR (base : Nat) (w : World) (v : Value) (P : List LLV) : Prop where
  own : w.ownsRow base 26 1 v P.length (rCells P)
  is : ∀ x ∈ P, IsLists w x.2 x.1
  off : ∀ x ∈ P, ∀ B, v.ownBlock = some B → ListsOff B w x.2 x.1
theorem OwnR.nil (base : Nat) (w : World) : OwnR base w (.slice none 0 0) [] := ⟨World.ownsRow_nil _ _ _ _, fun x hx => (by cases hx), fun x hx => (by cases hx)⟩
theorem OwnR.keep {base : Nat} {w w' : World} {v : Value} {P : List LLV} (h : OwnR base w v P) (hb : Below w.heap.size w w') : OwnR base w' v P :=
  ⟨own_but (C := fun _ => False) h.own (But.of_below hb) (fun _ _ => id), fun x hx => (h.is x hx).keep hb, fun x hx B e => (h.off x hx B e).keep hb⟩
theorem OwnR.slice {base : Nat} {w : World} {v : Value} {P : List LLV} (h : OwnR base w v P) : ∃ A c, v = .slice A P.length c := ownsRow_slice h.own
theorem ListsOff.fresh {B : Nat} {w : World} {v : Value} {L : List (List Int)} (h : IsLists w v L) (hB : w.heap.size ≤ B) : ListsOff B w v L := by
  obtain ⟨A, c, p, rfl, h2, h3, h4, h5, h6⟩ := h
  refine ⟨A, c, p, rfl, h2, h3, h4, h5, h6, fun x hx hl b e => ?_, fun hp b e => ?_⟩
  · have := ints_lt (h4 x hx) hl e
    omega
  · obtain ⟨x, r, rfl⟩ : ∃ x r, p = x :: r := by cases p; exact absurd rfl hp; exact ⟨_, _, rfl⟩
    obtain ⟨ad, rfl, hc⟩ := h3 0 x.2 rfl
    have := cell_lt hc
    rw [block_of_add] at this
    simp [Value.ownBlock] at e
    omega
theorem lists_one {w : World} {v : Value} {L : List (List Int)} (h : IsLists w v L) : v.oneCell' = true := by
  obtain ⟨A, c, p, rfl, _⟩ := h
  rfl
theorem OwnR.push {base : Nat} {w w' : World} {v v' : Value} {P : List LLV} (h : OwnR base w v P) {y : LLV} (hg : w.grownBy w' v.ownBlock) (hown : w'.ownsRow base 26 1 v' (P.length + 1) (rCells P ++ [y.2]))
    (hat : v'.ownBlock = v.ownBlock ∨ v'.ownBlock = some w.heap.size) (hy : IsLists w y.2 y.1) (hf : ∀ B, v.ownBlock = some B → ListsOff B w y.2 y.1) : OwnR base w' v' (P ++ [y]) := by
  have hbut : But (fun b => v.ownBlock = some b) w w' := But.of_grown hg
  have his : ∀ x ∈ P ++ [y], IsLists w x.2 x.1 := fun x hx => by
    rcases List.mem_append.1 hx with hx | hx
    · exact h.is x hx
    · rw [List.mem_singleton.1 hx]; exact hy
  have hoff : ∀ x ∈ P ++ [y], ∀ B, v.ownBlock = some B → ListsOff B w x.2 x.1 := fun x hx => by
    rcases List.mem_append.1 hx with hx | hx
    · exact h.off x hx
    · rw [List.mem_singleton.1 hx]; exact hf
  have hmove : ∀ x ∈ P ++ [y], ∀ B, ListsOff B w x.2 x.1 → ListsOff B w' x.2 x.1 := fun x hx B hB => by
    cases hv : v.ownBlock with
    | none =>
      have hbel : Below w.heap.size w w' := hbut.below (Nat.le_refl _) (fun b e => by rw [hv] at e; cases e)
      exact hB.keep hbel
    | some G =>
      obtain ⟨A, c, p, e1, h2, h3, h4, h5, h6, h7, h8⟩ := hB
      obtain ⟨A', c', p', e1', h2', h3', h4', h5', h6', h7', h8'⟩ := hoff x hx G hv
      have hb : But (fun b => b = G) w w' := hbut.wide (fun b e => by rw [hv] at e; injection e with e; exact e.symm)
      obtain ⟨A2, c2, p2, e2, k2, k3, k4, k5, k6, k7, k8⟩ := (hoff x hx G hv).but hb
      refine ⟨A, c, p, e1, h2, fun j u hj => ?_, fun z hz => ?_, h5, h6, h7, h8⟩
      · obtain ⟨ad, rfl, hcell⟩ := h3 j u hj
        refine ⟨ad, rfl, cell_but hb hcell ?_⟩
        rw [block_of_add]
        refine h8' ?_ _ (by rw [e1]; rfl)
        intro hz
        have hl : p.length = 0 := by
          rw [e1] at e1'
          injection e1' with _ q _
          rw [q, hz]; rfl
        rw [List.eq_nil_of_length_eq_zero hl] at hj
        simp [lCells] at hj
      · obtain ⟨i, hi, rfl⟩ := List.getElem_of_mem hz
        refine (h4 _ hz).but' hb fun hl b e => ?_
        have hcell : (lCells p)[i]? = some p[i].2 := by unfold lCells; rw [List.getElem?_map, List.getElem?_eq_getElem hi]; rfl
        obtain ⟨ad, ea, hc1⟩ := h3 i _ hcell
        have hl' : p'.length = p.length := by
          rw [e1] at e1'
          injection e1' with _ q _
          exact q.symm
        have hi' : i < p'.length := by omega
        have hcell' : (lCells p')[i]? = some p'[i].2 := by unfold lCells; rw [List.getElem?_map, List.getElem?_eq_getElem hi']; rfl
        obtain ⟨ad', ea', hc2⟩ := h3' i _ hcell'
        have hA : A' = A := by
          rw [e1] at e1'
          injection e1' with q _ _
          exact q.symm
        rw [hA, ea] at ea'
        injection ea' with ea'
        subst ea'
        rw [hc1] at hc2
        injection hc2 with hc2
        have hv1 : p'[i].1 = p[i].1 := by
          have := congrArg (fun l => l[i]?) (h2'.trans h2.symm)
          simp only [lVals, List.getElem?_map, List.getElem?_eq_getElem hi, List.getElem?_eq_getElem hi', Option.map_some] at this
          injection this
        exact h7' _ (List.getElem_mem hi') (by rw [hv1]; exact hl) b (by rw [← hc2]; exact e)
  refine ⟨?_, fun x hx => ?_, fun x hx B hB => ?_⟩
  · rw [List.length_append, rCells_app]
    exact hown
  · exact (hmove x hx _ (ListsOff.fresh (his x hx) (Nat.le_refl _))).lists
  · rcases hat with h' | h'
    · rw [h'] at hB
      exact hmove x hx B (hoff x hx B hB)
    · rw [h'] at hB
      injection hB with hB
      subst hB
      exact hmove x hx _ (ListsOff.fresh (his x hx) (Nat.le_refl _))
theorem lists_info : (Tryz.prog.info? 26).map (fun i => (i.zero, i.size, i.bytes)) = some (some (.slice none 0 0), 1, 24) := by kernel_rfl
/-- append(row, l): one list onto the row. -/
theorem wpList_appRR {ops : Array Oper} {rest : List Oper} {o : Oper} {a : Act} {Q : Exit → Act → World → Prop} (w : World) (hgd : o.guard = none) (s x : Operand)
    (ho : o.op = .call { callee := .builtin .append, args := #[s, x], argTypes := #[70, 70] })
    (base : Nat) (v : Value) (P : List LLV) (hs : a.eval s = v) (hown : OwnR base w v P)
    (g c : Nat) (y : LLV) (hx : a.eval x = .slice (some ⟨g, 0, none⟩) 1 c) (hc : w.cell? ⟨g, 0, none⟩ = some y.2) (hy : IsLists w y.2 y.1) (hf : ∀ B, v.ownBlock = some B → ListsOff B w y.2 y.1) (hn : P.length < 1000000) (hbase : base ≤ w.heap.size)
    (h : ∀ v' w', OwnR base w' v' (P ++ [y]) → w.grownBy w' v.ownBlock → wpList Tryz.prog ops Q rest (a.put o.dst v') w') : wpList Tryz.prog ops Q (o :: rest) a w := by
  obtain ⟨i0, hi, hz0, hz1, hz2⟩ := info_parts lists_info
  refine wpList_append_own_at w hgd s x _ ho base _ i0 _ 1 24 Tryz.underlying70 hi hz0 hz1 hz2 rfl (by decide) v P.length (rCells P) hs hown.own ⟨g, 0, none⟩ 1 c [y.2] hx rfl ?_ ?_ (by unfold maxLen; omega) (by omega) hbase (fun v' w' h1 h2 _ h4 => h v' w' (hown.push h2 h1 h4 hy hf) h2)
  · intro j u hj
    match j, hj with
    | 0, hj => simp at hj; subst hj; simpa [Addr.add] using hc
  · intro u hu; simp at hu; subst hu; exact lists_one hy
theorem OwnR.pop {base : Nat} {w : World} {g cap n : Nat} {P : List LLV} {x : LLV} (hn : n = P.length) (h : OwnR base w (.slice (some ⟨g, 0, none⟩) (n + 1) cap) (P ++ [x])) : OwnR base w (.slice (some ⟨g, 0, none⟩) n cap) P := by
  subst hn
  have ho := h.own
  rw [List.length_append, rCells_app] at ho
  exact ⟨ownsRow_pop (by rw [rCells_len]; omega) ho, fun z hz => h.is z (List.mem_append_left _ hz), fun z hz B e => h.off z (List.mem_append_left _ hz) B e⟩

def DoPost (base : Nat) (v : Value) (J : Option (List (List (List Int)))) (w : World) (e : Ending) (w' : World) : Prop :=
  ∃ v', But (fun b => v.ownBlock = some b) w w' ∧ ((J = none ∧ e = .returned (.tuple #[v', errV 4])) ∨ ∃ P', J = some (rVals P').reverse ∧ e = .returned (.tuple #[v', errV 0]) ∧ OwnR base w' v' P')
theorem NonePost.both {O : Nat} {J : Option (List (List Int))} {w w' : World} {e : Ending} (h : NonePost O J w e w') :
    Below w.heap.size w w' ∧ ∃ v L en, e = .returned (.tuple #[v, errV en]) ∧ ListsOff O w' v L ∧ ((J = none ∧ en = 4) ∨ (J = some L ∧ en = 0)) := by
  refine ⟨h.1, ?_⟩
  rcases h.2 with ⟨h1, h2⟩ | ⟨v, L, h1, h2, h3⟩
  · exact ⟨_, [], 4, h2, ⟨none, 0, [], rfl, rfl, Rd.nil _ _, LOk.nil _, Nat.le_refl _, by simp [maxLen], (fun x hx => by cases hx), fun h => absurd rfl h⟩, .inl ⟨h1, rfl⟩⟩
  · exact ⟨v, L, 0, h2, h3, .inr ⟨h1, rfl⟩⟩
theorem OwnR.cell {base : Nat} {w : World} {g n cap : Nat} {P : List LLV} (h : OwnR base w (.slice (some ⟨g, 0, none⟩) n cap) P) {k : Nat} {x : LLV} (hx : P[k]? = some x) : w.cell? ⟨g, k, none⟩ = some x.2 := by
  have := h.own.cells (g := g) rfl k x.2 (by unfold rCells; rw [List.getElem?_map, hx]; rfl)
  rwa [adr0] at this
theorem OwnR.form {base : Nat} {w : World} {v : Value} {P : List LLV} (h : OwnR base w v P) (hP : 0 < P.length) : ∃ g cap, v = .slice (some ⟨g, 0, none⟩) P.length cap ∧ P.length ≤ cap ∧ cap ≤ maxLen ∧ base ≤ g ∧ g < w.heap.size := by
  obtain ⟨g, cap, cur, e1, e2, e3, e4, e5, _⟩ := own_cons h.own hP
  exact ⟨g, cap, e1, e4, e5, e2, e3.lt⟩

set_option maxHeartbeats 4000000 in
set_option maxRecDepth 100000 in
theorem cubes_do_no (base : Nat) (v : Value) (R : List LLV) (x : LLV) (w : World) (hown : OwnR base w v (R ++ [x])) (hx : Venn.COk x.1) (hbase : base ≤ w.heap.size) (hR : R.length ≤ 100) :
    Calls Tryz.prog 67 #[.int .i64 12, v] w (DoPost base v (Venn.cStep (x.1 :: (rVals R).reverse) 12) w) := by
  obtain ⟨g, cap, rfl, hc1, hc2, hg, hgl⟩ := hown.form (by simp)
  have hlen : (R ++ [x]).length = R.length + 1 := by simp
  rw [hlen] at hown hc1 ⊢
  have hcell := hown.cell (k := R.length) (x := x) (by simp)
  obtain ⟨A, c, hxv⟩ := slice_of_lists (hown.off x (by simp) g rfl)
  have HN := Lib.hid (cubes_none g x.2 x.1 w hgl (hown.is x (by simp)) (Venn.mem_of_cok hx) (fun c hc => (hx.1.1 c hc).2.2) hx.2)
  have HO := Lib.hid (hown.pop (n := R.length) rfl)
  have HJ := Lib.hid (show Venn.cStep (x.1 :: (rVals R).reverse) 12 = (match Venn.noV x.1 with | none => none | some y => some (y :: (rVals R).reverse)) from rfl)
  generalize Venn.cStep (x.1 :: (rVals R).reverse) 12 = J at HJ ⊢
  generalize Venn.noV x.1 = K at HJ HN
  rw [hxv] at hcell HN
  obtain ⟨m, hm⟩ : ∃ m, m = R.length := ⟨_, rfl⟩
  rw [← hm] at hc1 hcell HO hR ⊢
  have HM := Lib.hid hm
  clear hm hown hx hxv hlen
  have f1 : IntKind.i64.wrap (m : Int) = (m : Int) := IntWalk.i64_in _ (by omega)
  have f2 : (m : Int) < (m : Int) + 1 := by omega
  have f3 : (0 : Int) ≤ (m : Int) := by omega
  have f4 : (m : Int) ≤ (cap : Int) := by omega
  have f5 : IntKind.i64.wrap ((m : Int) + 1 - 1) = (m : Int) := by rw [show (m : Int) + 1 - 1 = m by omega]; exact f1
  go_enter Tryz.func67, Tryz.ntmps67
  go_wp2_with fail
  refine (HN.out).mono ?_
  intro e w1 hpost
  obtain ⟨hb1, v1, L1, en, rfl, hl1, hcase⟩ := hpost.both
  have HL1 := Lib.hid hl1
  have HCS := Lib.hid hcase
  have HO1 := Lib.hid (HO.out.keep hb1)
  clear hcell hpost hl1 hcase
  obtain ⟨E, hE⟩ : ∃ E, E = errV en := ⟨_, rfl⟩
  rw [← hE]
  have HE := Lib.hid hE
  clear hE
  obtain ⟨A1, c1, rfl⟩ := slice_of_lists HL1.out
  have hb2 : Below w1.heap.size w1 (w1.alloc (.cells #[.slice A1 L1.length c1] 26)) := by (repeat' (first | (with_reducible exact Below.refl _ _) | (with_reducible assumption) | (with_reducible refine Below.next ?_ (by with_reducible assumption)) | (with_reducible refine Below.drew ?_) | (with_reducible refine Below.laid ?_ _) | (with_reducible refine Below.setCell ?_ ?_ _) | (with_reducible refine size_of ?_) | (with_reducible refine Nat.le_succ_of_le ?_) | go_size))
  have hbase2 : base ≤ (w1.alloc (.cells #[.slice A1 L1.length c1] 26)).heap.size := Nat.le_trans hbase (Nat.le_trans hb1.size hb2.size)
  have hcell2 := (Blk.new w1 26 #[.slice A1 L1.length c1]).cell 0
  go_upto_region 4 with (fail)
  go_wp2_with (at_builtin; refine wpList_appRR _ rfl _ _ rfl base _ R rfl (HO1.out.keep hb2) w1.heap.size 1 (L1, .slice A1 L1.length c1) rfl hcell2 (HL1.out.keep hb2).lists (fun B e => by injection e with e; subst e; exact HL1.out.keep hb2) (by have := HM.out; omega) hbase2 ?_)
  intro v' w3 hown3 hg3
  have hbut : But (fun b => (Value.slice (some ⟨g, 0, none⟩) (m + 1) cap).ownBlock = some b) w w3 := (But.of_below (Below.next hb1 hb2)).trans ((But.of_grown hg3).wide fun b e => e)
  clear hg3 hcell2
  go_wp2
  go_ret2
  refine ⟨v', hbut, ?_⟩
  rcases HCS.out with ⟨h1, h2⟩ | ⟨h1, h2⟩
  · exact .inl ⟨by rw [HJ.out, h1], by rw [← h2, ← HE.out]; rfl⟩
  · refine .inr ⟨_, ?_, by rw [← h2, ← HE.out]; rfl, hown3⟩
    rw [HJ.out, h1, rVals_app, List.reverse_append]
    rfl

-- BY gen_do.py FROM HERE

set_option maxHeartbeats 4000000 in
set_option maxRecDepth 100000 in
theorem cubes_do_and (base : Nat) (v : Value) (R : List LLV) (x y : LLV) (w : World) (hown : OwnR base w v (R ++ [x] ++ [y])) (hx : Venn.COk x.1) (hy : Venn.COk y.1) (hbase : base ≤ w.heap.size) (hR : R.length ≤ 100) :
    Calls Tryz.prog 67 #[.int .i64 10, v] w (DoPost base v (Venn.cStep (y.1 :: x.1 :: (rVals R).reverse) 10) w) := by
  obtain ⟨g, cap, rfl, hc1, hc2, hg, hgl⟩ := hown.form (by simp)
  have hlen : (R ++ [x] ++ [y]).length = R.length + 1 + 1 := by simp
  rw [hlen] at hown hc1 ⊢
  have hd : Below w.heap.size w w.drew := Below.drew (Below.refl w.heap.size w)
  have hcellx := hown.cell (k := R.length) (x := x) (by simp)
  have hcelly := hown.cell (k := R.length + 1) (x := y) (by simp)
  have hxo := (hown.off x (by simp) g rfl).keep hd
  have hyo := (hown.off y (by simp) g rfl).keep hd
  obtain ⟨A, c, hxv⟩ := slice_of_lists hxo
  obtain ⟨B, d, hyv⟩ := slice_of_lists hyo
  have HO := Lib.hid (((hown.pop (n := R.length + 1) (by simp)).pop (n := R.length) rfl).keep hd)
  have HN := Lib.hid (cubes_both g x.2 y.2 x.1 y.1 w.drew hgl hxo.lists hyo.lists hx.2 hy.2 (Venn.mem_of_cok hx) (Venn.mem_of_cok hy) (fun c hc => by have := (hx.1.1 c hc).2.2; omega) (fun c hc => by have := (hy.1.1 c hc).2.2; omega))
  have HJ := Lib.hid (show Venn.cStep (y.1 :: x.1 :: (rVals R).reverse) 10 = (match Venn.andV x.1 y.1 with | none => none | some z => some (z :: (rVals R).reverse)) from rfl)
  generalize Venn.cStep (y.1 :: x.1 :: (rVals R).reverse) 10 = J at HJ ⊢
  generalize Venn.andV x.1 y.1 = K at HJ HN
  rw [hxv] at hcellx HN
  rw [hyv] at hcelly HN
  obtain ⟨m, hm⟩ : ∃ m, m = R.length := ⟨_, rfl⟩
  rw [← hm] at hc1 hcellx hcelly HO hR ⊢
  have HM := Lib.hid hm
  clear hm hown hx hy hxv hyv hlen hxo hyo
  have f1 : IntKind.i64.wrap (m : Int) = (m : Int) := IntWalk.i64_in _ (by omega)
  have f2 : (m : Int) < (m : Int) + 1 + 1 := by omega
  have f3 : (0 : Int) ≤ (m : Int) := by omega
  have f4 : (m : Int) ≤ (cap : Int) := by omega
  have f5 : IntKind.i64.wrap ((m : Int) + 1 + 1 - 2) = (m : Int) := by rw [show (m : Int) + 1 + 1 - 2 = m by omega]; exact f1
  have f6 : IntKind.i64.wrap ((m : Int) + 1) = (m : Int) + 1 := IntWalk.i64_in _ (by omega)
  have f7 : (m : Int) + 1 < (m : Int) + 1 + 1 := by omega
  have f8 : (0 : Int) ≤ (m : Int) + 1 := by omega
  have f9 : IntKind.i64.wrap ((m : Int) + 1 + 1 - 1) = (m : Int) + 1 := by rw [show (m : Int) + 1 + 1 - 1 = (m : Int) + 1 by omega]; exact f6
  go_enter Tryz.func67, Tryz.ntmps67
  go_wp2_with fail
  go_region
  clear hcellx hcelly
  go_wp2_with fail
  refine (HN.out).mono ?_
  intro e w1 hpost
  obtain ⟨hb1, v1, L1, en, rfl, hl1, hcase⟩ := (hpost.off hgl).both
  have HL1 := Lib.hid hl1
  have HCS := Lib.hid hcase
  have HO1 := Lib.hid (HO.out.keep hb1)
  clear hpost hl1 hcase
  obtain ⟨E, hE⟩ : ∃ E, E = errV en := ⟨_, rfl⟩
  rw [← hE]
  have HE := Lib.hid hE
  clear hE
  obtain ⟨A1, c1, rfl⟩ := slice_of_lists HL1.out
  have hb0 := Below.next hd hb1
  have hb2 : Below w1.heap.size w1 (w1.alloc (.cells #[.slice A1 L1.length c1] 26)) := by (repeat' (first | (with_reducible exact Below.refl _ _) | (with_reducible assumption) | (with_reducible refine Below.next ?_ (by with_reducible assumption)) | (with_reducible refine Below.drew ?_) | (with_reducible refine Below.laid ?_ _) | (with_reducible refine Below.setCell ?_ ?_ _) | (with_reducible refine size_of ?_) | (with_reducible refine Nat.le_succ_of_le ?_) | go_size))
  have hbase2 : base ≤ (w1.alloc (.cells #[.slice A1 L1.length c1] 26)).heap.size := Nat.le_trans hbase (Nat.le_trans hb0.size hb2.size)
  have hcell2 := (Blk.new w1 26 #[.slice A1 L1.length c1]).cell 0
  go_upto_region 8 with (fail)
  go_wp2_with (at_builtin; refine wpList_appRR _ rfl _ _ rfl base _ R rfl (HO1.out.keep hb2) w1.heap.size 1 (L1, .slice A1 L1.length c1) rfl hcell2 (HL1.out.keep hb2).lists (fun B e => by injection e with e; subst e; exact HL1.out.keep hb2) (by have := HM.out; omega) hbase2 ?_)
  intro v' w3 hown3 hg3
  have hbut : But (fun b => (Value.slice (some ⟨g, 0, none⟩) (m + 1 + 1) cap).ownBlock = some b) w w3 := (But.of_below (Below.next hb0 hb2)).trans ((But.of_grown hg3).wide fun b e => e)
  clear hg3 hcell2
  go_wp2
  go_ret2
  refine ⟨v', hbut, ?_⟩
  rcases HCS.out with ⟨h1, h2⟩ | ⟨h1, h2⟩
  · exact .inl ⟨by rw [HJ.out, h1], by rw [← h2, ← HE.out]; rfl⟩
  · refine .inr ⟨_, ?_, by rw [← h2, ← HE.out]; rfl, hown3⟩
    rw [HJ.out, h1, rVals_app, List.reverse_append]
    rfl

set_option maxHeartbeats 4000000 in
set_option maxRecDepth 100000 in
theorem cubes_do_or (base : Nat) (v : Value) (R : List LLV) (x y : LLV) (w : World) (hown : OwnR base w v (R ++ [x] ++ [y])) (hx : Venn.COk x.1) (hy : Venn.COk y.1) (hbase : base ≤ w.heap.size) (hR : R.length ≤ 100) :
    Calls Tryz.prog 67 #[.int .i64 11, v] w (DoPost base v (Venn.cStep (y.1 :: x.1 :: (rVals R).reverse) 11) w) := by
  obtain ⟨g, cap, rfl, hc1, hc2, hg, hgl⟩ := hown.form (by simp)
  have hlen : (R ++ [x] ++ [y]).length = R.length + 1 + 1 := by simp
  rw [hlen] at hown hc1 ⊢
  have hd : Below w.heap.size w w.drew := Below.drew (Below.refl w.heap.size w)
  have hcellx := hown.cell (k := R.length) (x := x) (by simp)
  have hcelly := hown.cell (k := R.length + 1) (x := y) (by simp)
  have hxo := (hown.off x (by simp) g rfl).keep hd
  have hyo := (hown.off y (by simp) g rfl).keep hd
  obtain ⟨A, c, hxv⟩ := slice_of_lists hxo
  obtain ⟨B, d, hyv⟩ := slice_of_lists hyo
  have HO := Lib.hid (((hown.pop (n := R.length + 1) (by simp)).pop (n := R.length) rfl).keep hd)
  have HN := Lib.hid (cubes_one g x.2 y.2 x.1 y.1 w.drew hxo hyo hx.2 hy.2)
  have HJ := Lib.hid (show Venn.cStep (y.1 :: x.1 :: (rVals R).reverse) 11 = (match Venn.orV x.1 y.1 with | none => none | some z => some (z :: (rVals R).reverse)) from rfl)
  generalize Venn.cStep (y.1 :: x.1 :: (rVals R).reverse) 11 = J at HJ ⊢
  generalize Venn.orV x.1 y.1 = K at HJ HN
  rw [hxv] at hcellx HN
  rw [hyv] at hcelly HN
  obtain ⟨m, hm⟩ : ∃ m, m = R.length := ⟨_, rfl⟩
  rw [← hm] at hc1 hcellx hcelly HO hR ⊢
  have HM := Lib.hid hm
  clear hm hown hx hy hxv hyv hlen hxo hyo
  have f1 : IntKind.i64.wrap (m : Int) = (m : Int) := IntWalk.i64_in _ (by omega)
  have f2 : (m : Int) < (m : Int) + 1 + 1 := by omega
  have f3 : (0 : Int) ≤ (m : Int) := by omega
  have f4 : (m : Int) ≤ (cap : Int) := by omega
  have f5 : IntKind.i64.wrap ((m : Int) + 1 + 1 - 2) = (m : Int) := by rw [show (m : Int) + 1 + 1 - 2 = m by omega]; exact f1
  have f6 : IntKind.i64.wrap ((m : Int) + 1) = (m : Int) + 1 := IntWalk.i64_in _ (by omega)
  have f7 : (m : Int) + 1 < (m : Int) + 1 + 1 := by omega
  have f8 : (0 : Int) ≤ (m : Int) + 1 := by omega
  have f9 : IntKind.i64.wrap ((m : Int) + 1 + 1 - 1) = (m : Int) + 1 := by rw [show (m : Int) + 1 + 1 - 1 = (m : Int) + 1 by omega]; exact f6
  go_enter Tryz.func67, Tryz.ntmps67
  go_wp2_with fail
  go_region
  clear hcellx hcelly
  go_wp2_with fail
  refine (HN.out).mono ?_
  intro e w1 hpost
  obtain ⟨hb1, v1, L1, en, rfl, hl1, hcase⟩ := (hpost.off hgl).both
  have HL1 := Lib.hid hl1
  have HCS := Lib.hid hcase
  have HO1 := Lib.hid (HO.out.keep hb1)
  clear hpost hl1 hcase
  obtain ⟨E, hE⟩ : ∃ E, E = errV en := ⟨_, rfl⟩
  rw [← hE]
  have HE := Lib.hid hE
  clear hE
  obtain ⟨A1, c1, rfl⟩ := slice_of_lists HL1.out
  have hb0 := Below.next hd hb1
  have hb2 : Below w1.heap.size w1 (w1.alloc (.cells #[.slice A1 L1.length c1] 26)) := by (repeat' (first | (with_reducible exact Below.refl _ _) | (with_reducible assumption) | (with_reducible refine Below.next ?_ (by with_reducible assumption)) | (with_reducible refine Below.drew ?_) | (with_reducible refine Below.laid ?_ _) | (with_reducible refine Below.setCell ?_ ?_ _) | (with_reducible refine size_of ?_) | (with_reducible refine Nat.le_succ_of_le ?_) | go_size))
  have hbase2 : base ≤ (w1.alloc (.cells #[.slice A1 L1.length c1] 26)).heap.size := Nat.le_trans hbase (Nat.le_trans hb0.size hb2.size)
  have hcell2 := (Blk.new w1 26 #[.slice A1 L1.length c1]).cell 0
  go_upto_region 15 with (fail)
  go_wp2_with (at_builtin; refine wpList_appRR _ rfl _ _ rfl base _ R rfl (HO1.out.keep hb2) w1.heap.size 1 (L1, .slice A1 L1.length c1) rfl hcell2 (HL1.out.keep hb2).lists (fun B e => by injection e with e; subst e; exact HL1.out.keep hb2) (by have := HM.out; omega) hbase2 ?_)
  intro v' w3 hown3 hg3
  have hbut : But (fun b => (Value.slice (some ⟨g, 0, none⟩) (m + 1 + 1) cap).ownBlock = some b) w w3 := (But.of_below (Below.next hb0 hb2)).trans ((But.of_grown hg3).wide fun b e => e)
  clear hg3 hcell2
  go_wp2
  go_ret2
  refine ⟨v', hbut, ?_⟩
  rcases HCS.out with ⟨h1, h2⟩ | ⟨h1, h2⟩
  · exact .inl ⟨by rw [HJ.out, h1], by rw [← h2, ← HE.out]; rfl⟩
  · refine .inr ⟨_, ?_, by rw [← h2, ← HE.out]; rfl, hown3⟩
    rw [HJ.out, h1, rVals_app, List.reverse_append]
    rfl

set_option maxHeartbeats 4000000 in
set_option maxRecDepth 100000 in
theorem cubes_do_then (base : Nat) (v : Value) (R : List LLV) (x y : LLV) (w : World) (hown : OwnR base w v (R ++ [x] ++ [y])) (hx : Venn.COk x.1) (hy : Venn.COk y.1) (hbase : base ≤ w.heap.size) (hR : R.length ≤ 100) :
    Calls Tryz.prog 67 #[.int .i64 13, v] w (DoPost base v (Venn.cStep (y.1 :: x.1 :: (rVals R).reverse) 13) w) := by
  obtain ⟨g, cap, rfl, hc1, hc2, hg, hgl⟩ := hown.form (by simp)
  have hlen : (R ++ [x] ++ [y]).length = R.length + 1 + 1 := by simp
  rw [hlen] at hown hc1 ⊢
  have hd : Below w.heap.size w w.drew := Below.drew (Below.refl w.heap.size w)
  have hcellx := hown.cell (k := R.length) (x := x) (by simp)
  have hcelly := hown.cell (k := R.length + 1) (x := y) (by simp)
  have hxo := (hown.off x (by simp) g rfl).keep hd
  have hyo := (hown.off y (by simp) g rfl).keep hd
  obtain ⟨A, c, hxv⟩ := slice_of_lists hxo
  obtain ⟨B, d, hyv⟩ := slice_of_lists hyo
  have HO := Lib.hid (((hown.pop (n := R.length + 1) (by simp)).pop (n := R.length) rfl).keep hd)
  have HN := Lib.hid (cubes_none g x.2 x.1 w.drew hgl hxo.lists (Venn.mem_of_cok hx) (fun c hc => (hx.1.1 c hc).2.2) hx.2)
  have HJ := Lib.hid (show Venn.cStep (y.1 :: x.1 :: (rVals R).reverse) 13 = (match Venn.thenV x.1 y.1 with | none => none | some z => some (z :: (rVals R).reverse)) from rfl)
  generalize Venn.cStep (y.1 :: x.1 :: (rVals R).reverse) 13 = J at HJ ⊢
  cases hK : Venn.noV x.1 with
  | none =>
    have HJ := Lib.hid (show J = none by rw [HJ.out]; unfold Venn.thenV; rw [hK])
    rw [hK] at HN
    clear hK
    rw [hxv] at hcellx HN
    rw [hyv] at hcelly
    obtain ⟨m, hm⟩ : ∃ m, m = R.length := ⟨_, rfl⟩
    rw [← hm] at hc1 hcellx hcelly HO hR ⊢
    have HM := Lib.hid hm
    clear hm hown hx hy hxv hyv hlen hxo hyo
    have f1 : IntKind.i64.wrap (m : Int) = (m : Int) := IntWalk.i64_in _ (by omega)
    have f2 : (m : Int) < (m : Int) + 1 + 1 := by omega
    have f3 : (0 : Int) ≤ (m : Int) := by omega
    have f4 : (m : Int) ≤ (cap : Int) := by omega
    have f5 : IntKind.i64.wrap ((m : Int) + 1 + 1 - 2) = (m : Int) := by rw [show (m : Int) + 1 + 1 - 2 = m by omega]; exact f1
    have f6 : IntKind.i64.wrap ((m : Int) + 1) = (m : Int) + 1 := IntWalk.i64_in _ (by omega)
    have f7 : (m : Int) + 1 < (m : Int) + 1 + 1 := by omega
    have f8 : (0 : Int) ≤ (m : Int) + 1 := by omega
    have f9 : IntKind.i64.wrap ((m : Int) + 1 + 1 - 1) = (m : Int) + 1 := by rw [show (m : Int) + 1 + 1 - 1 = (m : Int) + 1 by omega]; exact f6
    go_enter Tryz.func67, Tryz.ntmps67
    go_wp2_with fail
    go_region
    clear hcellx hcelly
    go_wp2_with fail
    refine (HN.out).mono ?_
    rintro e w1 ⟨hb1, ⟨_, rfl⟩ | ⟨_, _, h, _⟩⟩
    · rw [errV_ne (show (4 : Int) ≠ 0 by decide)]
      go_wp2
      go_ret2
      exact ⟨_, But.of_below (Below.next hd hb1), .inl ⟨HJ.out, by rw [errV_ne (show (4 : Int) ≠ 0 by decide)]; rfl⟩⟩
    · cases h
  | some Z =>
    have HZ := Lib.hid (Venn.noV_ok hK)
    have HJ := Lib.hid (show J = (match Venn.orV Z y.1 with | none => none | some z => some (z :: (rVals R).reverse)) by rw [HJ.out]; unfold Venn.thenV; rw [hK])
    rw [hK] at HN
    clear hK
    have HT := Lib.hid (show ∀ v1 w1, ListsOff g w1 v1 Z → ListsOff g w1 y.2 y.1 → Calls Tryz.prog 87 #[v1, y.2] w1 (CubesPost g (Venn.orV Z y.1) w1) from fun v1 w1 h1 h2 => cubes_one g v1 y.2 Z y.1 w1 h1 h2 HZ.out.2 hy.2)
    have HY := Lib.hid hyo
    generalize Venn.orV Z y.1 = K at HJ HT
    rw [hyv] at HT HY
    rw [hxv] at hcellx HN
    rw [hyv] at hcelly
    obtain ⟨m, hm⟩ : ∃ m, m = R.length := ⟨_, rfl⟩
    rw [← hm] at hc1 hcellx hcelly HO hR ⊢
    have HM := Lib.hid hm
    clear hm hown hx hy hxv hyv hlen hxo hyo
    have f1 : IntKind.i64.wrap (m : Int) = (m : Int) := IntWalk.i64_in _ (by omega)
    have f2 : (m : Int) < (m : Int) + 1 + 1 := by omega
    have f3 : (0 : Int) ≤ (m : Int) := by omega
    have f4 : (m : Int) ≤ (cap : Int) := by omega
    have f5 : IntKind.i64.wrap ((m : Int) + 1 + 1 - 2) = (m : Int) := by rw [show (m : Int) + 1 + 1 - 2 = m by omega]; exact f1
    have f6 : IntKind.i64.wrap ((m : Int) + 1) = (m : Int) + 1 := IntWalk.i64_in _ (by omega)
    have f7 : (m : Int) + 1 < (m : Int) + 1 + 1 := by omega
    have f8 : (0 : Int) ≤ (m : Int) + 1 := by omega
    have f9 : IntKind.i64.wrap ((m : Int) + 1 + 1 - 1) = (m : Int) + 1 := by rw [show (m : Int) + 1 + 1 - 1 = (m : Int) + 1 by omega]; exact f6
    go_enter Tryz.func67, Tryz.ntmps67
    go_wp2_with fail
    go_region
    clear hcellx hcelly
    go_wp2_with fail
    refine (HN.out).mono ?_
    rintro e w0 ⟨hb0, ⟨h, _⟩ | ⟨v1, L1, h, rfl, hl1⟩⟩
    · cases h
    injection h with h
    subst h
    obtain ⟨A0, c0, rfl⟩ := slice_of_lists hl1
    rw [errV_zero rfl]
    have HN := Lib.hid (HT.out _ w0 hl1 (HY.out.keep hb0))
    have HO := Lib.hid (HO.out.keep hb0)
    have hd := Below.next hd hb0
    have hgl : g < w0.heap.size := Nat.lt_of_lt_of_le hgl hb0.size
    clear hl1 hb0
    go_wp2_with fail
    refine (HN.out).mono ?_
    intro e w1 hpost
    obtain ⟨hb1, v1, L1, en, rfl, hl1, hcase⟩ := (hpost.off hgl).both
    have HL1 := Lib.hid hl1
    have HCS := Lib.hid hcase
    have HO1 := Lib.hid (HO.out.keep hb1)
    clear hpost hl1 hcase
    obtain ⟨E, hE⟩ : ∃ E, E = errV en := ⟨_, rfl⟩
    rw [← hE]
    have HE := Lib.hid hE
    clear hE
    obtain ⟨A1, c1, rfl⟩ := slice_of_lists HL1.out
    have hb0 := Below.next hd hb1
    have hb2 : Below w1.heap.size w1 (w1.alloc (.cells #[.slice A1 L1.length c1] 26)) := by (repeat' (first | (with_reducible exact Below.refl _ _) | (with_reducible assumption) | (with_reducible refine Below.next ?_ (by with_reducible assumption)) | (with_reducible refine Below.drew ?_) | (with_reducible refine Below.laid ?_ _) | (with_reducible refine Below.setCell ?_ ?_ _) | (with_reducible refine size_of ?_) | (with_reducible refine Nat.le_succ_of_le ?_) | go_size))
    have hbase2 : base ≤ (w1.alloc (.cells #[.slice A1 L1.length c1] 26)).heap.size := Nat.le_trans hbase (Nat.le_trans hb0.size hb2.size)
    have hcell2 := (Blk.new w1 26 #[.slice A1 L1.length c1]).cell 0
    go_upto_region 15 with (fail)
    go_wp2_with (at_builtin; refine wpList_appRR _ rfl _ _ rfl base _ R rfl (HO1.out.keep hb2) w1.heap.size 1 (L1, .slice A1 L1.length c1) rfl hcell2 (HL1.out.keep hb2).lists (fun B e => by injection e with e; subst e; exact HL1.out.keep hb2) (by have := HM.out; omega) hbase2 ?_)
    intro v' w3 hown3 hg3
    have hbut : But (fun b => (Value.slice (some ⟨g, 0, none⟩) (m + 1 + 1) cap).ownBlock = some b) w w3 := (But.of_below (Below.next hb0 hb2)).trans ((But.of_grown hg3).wide fun b e => e)
    clear hg3 hcell2
    go_wp2
    go_ret2
    refine ⟨v', hbut, ?_⟩
    rcases HCS.out with ⟨h1, h2⟩ | ⟨h1, h2⟩
    · exact .inl ⟨by rw [HJ.out, h1], by rw [← h2, ← HE.out]; rfl⟩
    · refine .inr ⟨_, ?_, by rw [← h2, ← HE.out]; rfl, hown3⟩
      rw [HJ.out, h1, rVals_app, List.reverse_append]
      rfl
end Go.Proofs.YtlpfbdejiifbpaaGreatDoor

/-
  THE WALKS of cubes.do: a sign done to the row of lists of cubes; and of cubes.All, cubes.Of.
  THE WALKS of cubes.All, cubes.Of.
  THE WALKS of cubes.Of, and of cubes.holds and Holds with their closures.
-/
import Derived.Test.YtjnjgcibhjdmdaaGreatDoorCubesG
import Derived.Deep.DeepAppendRoom
import Derived.Test.YtjnjgcibhjdmdaaGreatDoorFormG
namespace Go.Proofs.YtjnjgcibhjdmdaaGreatDoor
open Go.RowKit

/-- A list of cubes and the value of its slice. -/
abbrev LLV := List (List Int) × Value
def rCells (P : List LLV) : List Value := P.map fun x => x.2
def rVals (P : List LLV) : List (List (List Int)) := P.map fun x => x.1
theorem rCells_len (P : List LLV) : (rCells P).length = P.length := List.length_map _
theorem rVals_len (P : List LLV) : (rVals P).length = P.length := List.length_map _
theorem rCells_app (P Q : List LLV) : rCells (P ++ Q) = rCells P ++ rCells Q := List.map_append
theorem rVals_app (P Q : List LLV) : rVals (P ++ Q) = rVals P ++ rVals Q := List.map_append
/-- The row of lists. -/
structure OwnR (base : Nat) (w : World) (v : Value) (P : List LLV) : Prop where
  own : w.ownsRow base 72 1 v P.length (rCells P)
  is : ∀ x ∈ P, IsLists w x.2 x.1
  off : ∀ x ∈ P, ∀ B, v.ownBlock = some B → ListsOff B w x.2 x.1
theorem OwnR.nil (base : Nat) (w : World) : OwnR base w (.slice none 0 0) [] := ⟨World.ownsRow_nil _ _ _ _, fun x hx => (by cases hx), fun x hx => (by cases hx)⟩
theorem OwnR.keep {base : Nat} {w w' : World} {v : Value} {P : List LLV} (h : OwnR base w v P) (hb : Below w.heap.size w w') : OwnR base w' v P :=
  ⟨own_but (C := fun _ => False) h.own (But.of_below hb) (fun _ _ => id), fun x hx => (h.is x hx).keep hb, fun x hx B e => (h.off x hx B e).keep hb⟩
theorem OwnR.slice {base : Nat} {w : World} {v : Value} {P : List LLV} (h : OwnR base w v P) : ∃ A c, v = .slice A P.length c := ownsRow_slice h.own
theorem ListsOff.fresh {B : Nat} {w : World} {v : Value} {L : List (List Int)} (h : IsLists w v L) (hB : w.heap.size ≤ B) : ListsOff B w v L := by
  obtain ⟨A, c, p, rfl, h2, h3, h4, h5, h6⟩ := h
  refine ⟨A, c, p, rfl, h2, h3, h4, h5, h6, fun x hx hl b e => ?_, fun hp b e => ?_⟩
  · have := ints_lt (h4 x hx) hl e
    omega
  · obtain ⟨x, r, rfl⟩ : ∃ x r, p = x :: r := by cases p; exact absurd rfl hp; exact ⟨_, _, rfl⟩
    obtain ⟨ad, rfl, hc⟩ := h3 0 x.2 rfl
    have := cell_lt hc
    rw [block_of_add] at this
    simp [Value.ownBlock] at e
    omega
theorem lists_one {w : World} {v : Value} {L : List (List Int)} (h : IsLists w v L) : v.oneCell' = true := by
  obtain ⟨A, c, p, rfl, _⟩ := h
  rfl
theorem OwnR.push {base : Nat} {w w' : World} {v v' : Value} {P : List LLV} (h : OwnR base w v P) {y : LLV} (hg : w.grownBy w' v.ownBlock) (hown : w'.ownsRow base 72 1 v' (P.length + 1) (rCells P ++ [y.2]))
    (hat : v'.ownBlock = v.ownBlock ∨ v'.ownBlock = some w.heap.size) (hy : IsLists w y.2 y.1) (hf : ∀ B, v.ownBlock = some B → ListsOff B w y.2 y.1) : OwnR base w' v' (P ++ [y]) := by
  have hbut : But (fun b => v.ownBlock = some b) w w' := But.of_grown hg
  have his : ∀ x ∈ P ++ [y], IsLists w x.2 x.1 := fun x hx => by
    rcases List.mem_append.1 hx with hx | hx
    · exact h.is x hx
    · rw [List.mem_singleton.1 hx]; exact hy
  have hoff : ∀ x ∈ P ++ [y], ∀ B, v.ownBlock = some B → ListsOff B w x.2 x.1 := fun x hx => by
    rcases List.mem_append.1 hx with hx | hx
    · exact h.off x hx
    · rw [List.mem_singleton.1 hx]; exact hf
  have hmove : ∀ x ∈ P ++ [y], ∀ B, ListsOff B w x.2 x.1 → ListsOff B w' x.2 x.1 := fun x hx B hB => by
    cases hv : v.ownBlock with
    | none =>
      have hbel : Below w.heap.size w w' := hbut.below (Nat.le_refl _) (fun b e => by rw [hv] at e; cases e)
      exact hB.keep hbel
    | some G =>
      obtain ⟨A, c, p, e1, h2, h3, h4, h5, h6, h7, h8⟩ := hB
      obtain ⟨A', c', p', e1', h2', h3', h4', h5', h6', h7', h8'⟩ := hoff x hx G hv
      have hb : But (fun b => b = G) w w' := hbut.wide (fun b e => by rw [hv] at e; injection e with e; exact e.symm)
      obtain ⟨A2, c2, p2, e2, k2, k3, k4, k5, k6, k7, k8⟩ := (hoff x hx G hv).but hb
      refine ⟨A, c, p, e1, h2, fun j u hj => ?_, fun z hz => ?_, h5, h6, h7, h8⟩
      · obtain ⟨ad, rfl, hcell⟩ := h3 j u hj
        refine ⟨ad, rfl, cell_but hb hcell ?_⟩
        rw [block_of_add]
        refine h8' ?_ _ (by rw [e1]; rfl)
        intro hz
        have hl : p.length = 0 := by
          rw [e1] at e1'
          injection e1' with _ q _
          rw [q, hz]; rfl
        rw [List.eq_nil_of_length_eq_zero hl] at hj
        simp [lCells] at hj
      · obtain ⟨i, hi, rfl⟩ := List.getElem_of_mem hz
        refine (h4 _ hz).but' hb fun hl b e => ?_
        have hcell : (lCells p)[i]? = some p[i].2 := by unfold lCells; rw [List.getElem?_map, List.getElem?_eq_getElem hi]; rfl
        obtain ⟨ad, ea, hc1⟩ := h3 i _ hcell
        have hl' : p'.length = p.length := by
          rw [e1] at e1'
          injection e1' with _ q _
          exact q.symm
        have hi' : i < p'.length := by omega
        have hcell' : (lCells p')[i]? = some p'[i].2 := by unfold lCells; rw [List.getElem?_map, List.getElem?_eq_getElem hi']; rfl
        obtain ⟨ad', ea', hc2⟩ := h3' i _ hcell'
        have hA : A' = A := by
          rw [e1] at e1'
          injection e1' with q _ _
          exact q.symm
        rw [hA, ea] at ea'
        injection ea' with ea'
        subst ea'
        rw [hc1] at hc2
        injection hc2 with hc2
        have hv1 : p'[i].1 = p[i].1 := by
          have := congrArg (fun l => l[i]?) (h2'.trans h2.symm)
          simp only [lVals, List.getElem?_map, List.getElem?_eq_getElem hi, List.getElem?_eq_getElem hi', Option.map_some] at this
          injection this
        exact h7' _ (List.getElem_mem hi') (by rw [hv1]; exact hl) b (by rw [← hc2]; exact e)
  refine ⟨?_, fun x hx => ?_, fun x hx B hB => ?_⟩
  · rw [List.length_append, rCells_app]
    exact hown
  · exact (hmove x hx _ (ListsOff.fresh (his x hx) (Nat.le_refl _))).lists
  · rcases hat with h' | h'
    · rw [h'] at hB
      exact hmove x hx B (hoff x hx B hB)
    · rw [h'] at hB
      injection hB with hB
      subst hB
      exact hmove x hx _ (ListsOff.fresh (his x hx) (Nat.le_refl _))
theorem lists_info : (Tryz.prog.info? 72).map (fun i => (i.zero, i.size, i.bytes)) = some (some (.slice none 0 0), 1, 24) := by kernel_rfl
/-- append(row, l): one list onto the row. -/
theorem wpList_appRR {ops : Array Oper} {rest : List Oper} {o : Oper} {a : Act} {Q : Exit → Act → World → Prop} (w : World) (hgd : o.guard = none) (s x : Operand)
    (ho : o.op = .call { callee := .builtin .append, args := #[s, x], argTypes := #[137, 137] })
    (base : Nat) (v : Value) (P : List LLV) (hs : a.eval s = v) (hown : OwnR base w v P)
    (g c : Nat) (y : LLV) (hx : a.eval x = .slice (some ⟨g, 0, none⟩) 1 c) (hc : w.cell? ⟨g, 0, none⟩ = some y.2) (hy : IsLists w y.2 y.1) (hf : ∀ B, v.ownBlock = some B → ListsOff B w y.2 y.1) (hn : P.length < 1000000) (hbase : base ≤ w.heap.size)
    (h : ∀ v' w', OwnR base w' v' (P ++ [y]) → w.grownBy w' v.ownBlock → wpList Tryz.prog ops Q rest (a.put o.dst v') w') : wpList Tryz.prog ops Q (o :: rest) a w := by
  obtain ⟨i0, hi, hz0, hz1, hz2⟩ := info_parts lists_info
  refine wpList_append_own_at w hgd s x _ ho base _ i0 _ 1 24 Tryz.underlying137 hi hz0 hz1 hz2 rfl (by decide) v P.length (rCells P) hs hown.own ⟨g, 0, none⟩ 1 c [y.2] hx rfl ?_ ?_ (by unfold maxLen; omega) (by omega) hbase (fun v' w' h1 h2 _ h4 => h v' w' (hown.push h2 h1 h4 hy hf) h2)
  · intro j u hj
    match j, hj with
    | 0, hj => simp at hj; subst hj; simpa [Addr.add] using hc
  · intro u hu; simp at hu; subst hu; exact lists_one hy
theorem OwnR.pop {base : Nat} {w : World} {g cap n : Nat} {P : List LLV} {x : LLV} (hn : n = P.length) (h : OwnR base w (.slice (some ⟨g, 0, none⟩) (n + 1) cap) (P ++ [x])) : OwnR base w (.slice (some ⟨g, 0, none⟩) n cap) P := by
  subst hn
  have ho := h.own
  rw [List.length_append, rCells_app] at ho
  exact ⟨ownsRow_pop (by rw [rCells_len]; omega) ho, fun z hz => h.is z (List.mem_append_left _ hz), fun z hz B e => h.off z (List.mem_append_left _ hz) B e⟩

def DoPost (base : Nat) (v : Value) (J : Option (List (List (List Int)))) (w : World) (e : Ending) (w' : World) : Prop :=
  ∃ v', But (fun b => v.ownBlock = some b) w w' ∧ ((J = none ∧ e = .returned (.tuple #[v', errV 4])) ∨ ∃ P', J = some (rVals P').reverse ∧ e = .returned (.tuple #[v', errV 0]) ∧ OwnR base w' v' P')
theorem NonePost.both {O : Nat} {J : Option (List (List Int))} {w w' : World} {e : Ending} (h : NonePost O J w e w') :
    Below w.heap.size w w' ∧ ∃ v L en, e = .returned (.tuple #[v, errV en]) ∧ ListsOff O w' v L ∧ ((J = none ∧ en = 4) ∨ (J = some L ∧ en = 0)) := by
  refine ⟨h.1, ?_⟩
  rcases h.2 with ⟨h1, h2⟩ | ⟨v, L, h1, h2, h3⟩
  · exact ⟨_, [], 4, h2, ⟨none, 0, [], rfl, rfl, Rd.nil _ _, LOk.nil _, Nat.le_refl _, by simp [maxLen], (fun x hx => by cases hx), fun h => absurd rfl h⟩, .inl ⟨h1, rfl⟩⟩
  · exact ⟨v, L, 0, h2, h3, .inr ⟨h1, rfl⟩⟩
theorem OwnR.cell {base : Nat} {w : World} {g n cap : Nat} {P : List LLV} (h : OwnR base w (.slice (some ⟨g, 0, none⟩) n cap) P) {k : Nat} {x : LLV} (hx : P[k]? = some x) : w.cell? ⟨g, k, none⟩ = some x.2 := by
  have := h.own.cells (g := g) rfl k x.2 (by unfold rCells; rw [List.getElem?_map, hx]; rfl)
  rwa [adr0] at this
theorem OwnR.form {base : Nat} {w : World} {v : Value} {P : List LLV} (h : OwnR base w v P) (hP : 0 < P.length) : ∃ g cap, v = .slice (some ⟨g, 0, none⟩) P.length cap ∧ P.length ≤ cap ∧ cap ≤ maxLen ∧ base ≤ g ∧ g < w.heap.size := by
  obtain ⟨g, cap, cur, e1, e2, e3, e4, e5, _⟩ := own_cons h.own hP
  exact ⟨g, cap, e1, e4, e5, e2, e3.lt⟩

set_option maxHeartbeats 4000000 in
set_option maxRecDepth 100000 in
theorem cubes_do_no (base : Nat) (v : Value) (R : List LLV) (x : LLV) (w : World) (hown : OwnR base w v (R ++ [x])) (hx : Venn.COk x.1) (hbase : base ≤ w.heap.size) (hR : R.length ≤ 100) :
    Calls Tryz.prog 90 #[.int .i64 12, v] w (DoPost base v (Venn.cStep (x.1 :: (rVals R).reverse) 12) w) := by
  obtain ⟨g, cap, rfl, hc1, hc2, hg, hgl⟩ := hown.form (by simp)
  have hlen : (R ++ [x]).length = R.length + 1 := by simp
  rw [hlen] at hown hc1 ⊢
  have hcell := hown.cell (k := R.length) (x := x) (by simp)
  obtain ⟨A, c, hxv⟩ := slice_of_lists (hown.off x (by simp) g rfl)
  have HN := Lib.hid (cubes_none g x.2 x.1 w hgl (hown.is x (by simp)) (Venn.mem_of_cok hx) (fun c hc => (hx.1.1 c hc).2.2) hx.2)
  have HO := Lib.hid (hown.pop (n := R.length) rfl)
  have HJ := Lib.hid (show Venn.cStep (x.1 :: (rVals R).reverse) 12 = (match Venn.noV x.1 with | none => none | some y => some (y :: (rVals R).reverse)) from rfl)
  generalize Venn.cStep (x.1 :: (rVals R).reverse) 12 = J at HJ ⊢
  generalize Venn.noV x.1 = K at HJ HN
  rw [hxv] at hcell HN
  obtain ⟨m, hm⟩ : ∃ m, m = R.length := ⟨_, rfl⟩
  rw [← hm] at hc1 hcell HO hR ⊢
  have HM := Lib.hid hm
  clear hm hown hx hxv hlen
  have f1 : IntKind.i64.wrap (m : Int) = (m : Int) := IntWalk.i64_in _ (by omega)
  have f2 : (m : Int) < (m : Int) + 1 := by omega
  have f3 : (0 : Int) ≤ (m : Int) := by omega
  have f4 : (m : Int) ≤ (cap : Int) := by omega
  have f5 : IntKind.i64.wrap ((m : Int) + 1 - 1) = (m : Int) := by rw [show (m : Int) + 1 - 1 = m by omega]; exact f1
  go_enter Tryz.func90, Tryz.ntmps90
  go_wp2_with fail
  refine (HN.out).mono ?_
  intro e w1 hpost
  obtain ⟨hb1, v1, L1, en, rfl, hl1, hcase⟩ := hpost.both
  have HL1 := Lib.hid hl1
  have HCS := Lib.hid hcase
  have HO1 := Lib.hid (HO.out.keep hb1)
  clear hcell hpost hl1 hcase
  obtain ⟨E, hE⟩ : ∃ E, E = errV en := ⟨_, rfl⟩
  rw [← hE]
  have HE := Lib.hid hE
  clear hE
  obtain ⟨A1, c1, rfl⟩ := slice_of_lists HL1.out
  have hb2 : Below w1.heap.size w1 (w1.alloc (.cells #[.slice A1 L1.length c1] 72)) := by (repeat' (first | (with_reducible exact Below.refl _ _) | (with_reducible assumption) | (with_reducible refine Below.next ?_ (by with_reducible assumption)) | (with_reducible refine Below.drew ?_) | (with_reducible refine Below.laid ?_ _) | (with_reducible refine Below.setCell ?_ ?_ _) | (with_reducible refine size_of ?_) | (with_reducible refine Nat.le_succ_of_le ?_) | go_size))
  have hbase2 : base ≤ (w1.alloc (.cells #[.slice A1 L1.length c1] 72)).heap.size := Nat.le_trans hbase (Nat.le_trans hb1.size hb2.size)
  have hcell2 := (Blk.new w1 72 #[.slice A1 L1.length c1]).cell 0
  go_upto_region 4 with (fail)
  go_wp2_with (at_builtin; refine wpList_appRR _ rfl _ _ rfl base _ R rfl (HO1.out.keep hb2) w1.heap.size 1 (L1, .slice A1 L1.length c1) rfl hcell2 (HL1.out.keep hb2).lists (fun B e => by injection e with e; subst e; exact HL1.out.keep hb2) (by have := HM.out; omega) hbase2 ?_)
  intro v' w3 hown3 hg3
  have hbut : But (fun b => (Value.slice (some ⟨g, 0, none⟩) (m + 1) cap).ownBlock = some b) w w3 := (But.of_below (Below.next hb1 hb2)).trans ((But.of_grown hg3).wide fun b e => e)
  clear hg3 hcell2
  go_wp2
  go_ret2
  refine ⟨v', hbut, ?_⟩
  rcases HCS.out with ⟨h1, h2⟩ | ⟨h1, h2⟩
  · exact .inl ⟨by rw [HJ.out, h1], by rw [← h2, ← HE.out]; rfl⟩
  · refine .inr ⟨_, ?_, by rw [← h2, ← HE.out]; rfl, hown3⟩
    rw [HJ.out, h1, rVals_app, List.reverse_append]
    rfl

-- BY gen_do.py FROM HERE

set_option maxHeartbeats 4000000 in
set_option maxRecDepth 100000 in
theorem cubes_do_and (base : Nat) (v : Value) (R : List LLV) (x y : LLV) (w : World) (hown : OwnR base w v (R ++ [x] ++ [y])) (hx : Venn.COk x.1) (hy : Venn.COk y.1) (hbase : base ≤ w.heap.size) (hR : R.length ≤ 100) :
    Calls Tryz.prog 90 #[.int .i64 10, v] w (DoPost base v (Venn.cStep (y.1 :: x.1 :: (rVals R).reverse) 10) w) := by
  obtain ⟨g, cap, rfl, hc1, hc2, hg, hgl⟩ := hown.form (by simp)
  have hlen : (R ++ [x] ++ [y]).length = R.length + 1 + 1 := by simp
  rw [hlen] at hown hc1 ⊢
  have hd : Below w.heap.size w w.drew := Below.drew (Below.refl w.heap.size w)
  have hcellx := hown.cell (k := R.length) (x := x) (by simp)
  have hcelly := hown.cell (k := R.length + 1) (x := y) (by simp)
  have hxo := (hown.off x (by simp) g rfl).keep hd
  have hyo := (hown.off y (by simp) g rfl).keep hd
  obtain ⟨A, c, hxv⟩ := slice_of_lists hxo
  obtain ⟨B, d, hyv⟩ := slice_of_lists hyo
  have HO := Lib.hid (((hown.pop (n := R.length + 1) (by simp)).pop (n := R.length) rfl).keep hd)
  have HN := Lib.hid (cubes_both g x.2 y.2 x.1 y.1 w.drew hgl hxo.lists hyo.lists hx.2 hy.2 (Venn.mem_of_cok hx) (Venn.mem_of_cok hy) (fun c hc => by have := (hx.1.1 c hc).2.2; omega) (fun c hc => by have := (hy.1.1 c hc).2.2; omega))
  have HJ := Lib.hid (show Venn.cStep (y.1 :: x.1 :: (rVals R).reverse) 10 = (match Venn.andV x.1 y.1 with | none => none | some z => some (z :: (rVals R).reverse)) from rfl)
  generalize Venn.cStep (y.1 :: x.1 :: (rVals R).reverse) 10 = J at HJ ⊢
  generalize Venn.andV x.1 y.1 = K at HJ HN
  rw [hxv] at hcellx HN
  rw [hyv] at hcelly HN
  obtain ⟨m, hm⟩ : ∃ m, m = R.length := ⟨_, rfl⟩
  rw [← hm] at hc1 hcellx hcelly HO hR ⊢
  have HM := Lib.hid hm
  clear hm hown hx hy hxv hyv hlen hxo hyo
  have f1 : IntKind.i64.wrap (m : Int) = (m : Int) := IntWalk.i64_in _ (by omega)
  have f2 : (m : Int) < (m : Int) + 1 + 1 := by omega
  have f3 : (0 : Int) ≤ (m : Int) := by omega
  have f4 : (m : Int) ≤ (cap : Int) := by omega
  have f5 : IntKind.i64.wrap ((m : Int) + 1 + 1 - 2) = (m : Int) := by rw [show (m : Int) + 1 + 1 - 2 = m by omega]; exact f1
  have f6 : IntKind.i64.wrap ((m : Int) + 1) = (m : Int) + 1 := IntWalk.i64_in _ (by omega)
  have f7 : (m : Int) + 1 < (m : Int) + 1 + 1 := by omega
  have f8 : (0 : Int) ≤ (m : Int) + 1 := by omega
  have f9 : IntKind.i64.wrap ((m : Int) + 1 + 1 - 1) = (m : Int) + 1 := by rw [show (m : Int) + 1 + 1 - 1 = (m : Int) + 1 by omega]; exact f6
  go_enter Tryz.func90, Tryz.ntmps90
  go_wp2_with fail
  go_region
  clear hcellx hcelly
  go_wp2_with fail
  refine (HN.out).mono ?_
  intro e w1 hpost
  obtain ⟨hb1, v1, L1, en, rfl, hl1, hcase⟩ := (hpost.off hgl).both
  have HL1 := Lib.hid hl1
  have HCS := Lib.hid hcase
  have HO1 := Lib.hid (HO.out.keep hb1)
  clear hpost hl1 hcase
  obtain ⟨E, hE⟩ : ∃ E, E = errV en := ⟨_, rfl⟩
  rw [← hE]
  have HE := Lib.hid hE
  clear hE
  obtain ⟨A1, c1, rfl⟩ := slice_of_lists HL1.out
  have hb0 := Below.next hd hb1
  have hb2 : Below w1.heap.size w1 (w1.alloc (.cells #[.slice A1 L1.length c1] 72)) := by (repeat' (first | (with_reducible exact Below.refl _ _) | (with_reducible assumption) | (with_reducible refine Below.next ?_ (by with_reducible assumption)) | (with_reducible refine Below.drew ?_) | (with_reducible refine Below.laid ?_ _) | (with_reducible refine Below.setCell ?_ ?_ _) | (with_reducible refine size_of ?_) | (with_reducible refine Nat.le_succ_of_le ?_) | go_size))
  have hbase2 : base ≤ (w1.alloc (.cells #[.slice A1 L1.length c1] 72)).heap.size := Nat.le_trans hbase (Nat.le_trans hb0.size hb2.size)
  have hcell2 := (Blk.new w1 72 #[.slice A1 L1.length c1]).cell 0
  go_upto_region 8 with (fail)
  go_wp2_with (at_builtin; refine wpList_appRR _ rfl _ _ rfl base _ R rfl (HO1.out.keep hb2) w1.heap.size 1 (L1, .slice A1 L1.length c1) rfl hcell2 (HL1.out.keep hb2).lists (fun B e => by injection e with e; subst e; exact HL1.out.keep hb2) (by have := HM.out; omega) hbase2 ?_)
  intro v' w3 hown3 hg3
  have hbut : But (fun b => (Value.slice (some ⟨g, 0, none⟩) (m + 1 + 1) cap).ownBlock = some b) w w3 := (But.of_below (Below.next hb0 hb2)).trans ((But.of_grown hg3).wide fun b e => e)
  clear hg3 hcell2
  go_wp2
  go_ret2
  refine ⟨v', hbut, ?_⟩
  rcases HCS.out with ⟨h1, h2⟩ | ⟨h1, h2⟩
  · exact .inl ⟨by rw [HJ.out, h1], by rw [← h2, ← HE.out]; rfl⟩
  · refine .inr ⟨_, ?_, by rw [← h2, ← HE.out]; rfl, hown3⟩
    rw [HJ.out, h1, rVals_app, List.reverse_append]
    rfl

set_option maxHeartbeats 4000000 in
set_option maxRecDepth 100000 in
theorem cubes_do_or (base : Nat) (v : Value) (R : List LLV) (x y : LLV) (w : World) (hown : OwnR base w v (R ++ [x] ++ [y])) (hx : Venn.COk x.1) (hy : Venn.COk y.1) (hbase : base ≤ w.heap.size) (hR : R.length ≤ 100) :
    Calls Tryz.prog 90 #[.int .i64 11, v] w (DoPost base v (Venn.cStep (y.1 :: x.1 :: (rVals R).reverse) 11) w) := by
  obtain ⟨g, cap, rfl, hc1, hc2, hg, hgl⟩ := hown.form (by simp)
  have hlen : (R ++ [x] ++ [y]).length = R.length + 1 + 1 := by simp
  rw [hlen] at hown hc1 ⊢
  have hd : Below w.heap.size w w.drew := Below.drew (Below.refl w.heap.size w)
  have hcellx := hown.cell (k := R.length) (x := x) (by simp)
  have hcelly := hown.cell (k := R.length + 1) (x := y) (by simp)
  have hxo := (hown.off x (by simp) g rfl).keep hd
  have hyo := (hown.off y (by simp) g rfl).keep hd
  obtain ⟨A, c, hxv⟩ := slice_of_lists hxo
  obtain ⟨B, d, hyv⟩ := slice_of_lists hyo
  have HO := Lib.hid (((hown.pop (n := R.length + 1) (by simp)).pop (n := R.length) rfl).keep hd)
  have HN := Lib.hid (cubes_one g x.2 y.2 x.1 y.1 w.drew hxo hyo hx.2 hy.2)
  have HJ := Lib.hid (show Venn.cStep (y.1 :: x.1 :: (rVals R).reverse) 11 = (match Venn.orV x.1 y.1 with | none => none | some z => some (z :: (rVals R).reverse)) from rfl)
  generalize Venn.cStep (y.1 :: x.1 :: (rVals R).reverse) 11 = J at HJ ⊢
  generalize Venn.orV x.1 y.1 = K at HJ HN
  rw [hxv] at hcellx HN
  rw [hyv] at hcelly HN
  obtain ⟨m, hm⟩ : ∃ m, m = R.length := ⟨_, rfl⟩
  rw [← hm] at hc1 hcellx hcelly HO hR ⊢
  have HM := Lib.hid hm
  clear hm hown hx hy hxv hyv hlen hxo hyo
  have f1 : IntKind.i64.wrap (m : Int) = (m : Int) := IntWalk.i64_in _ (by omega)
  have f2 : (m : Int) < (m : Int) + 1 + 1 := by omega
  have f3 : (0 : Int) ≤ (m : Int) := by omega
  have f4 : (m : Int) ≤ (cap : Int) := by omega
  have f5 : IntKind.i64.wrap ((m : Int) + 1 + 1 - 2) = (m : Int) := by rw [show (m : Int) + 1 + 1 - 2 = m by omega]; exact f1
  have f6 : IntKind.i64.wrap ((m : Int) + 1) = (m : Int) + 1 := IntWalk.i64_in _ (by omega)
  have f7 : (m : Int) + 1 < (m : Int) + 1 + 1 := by omega
  have f8 : (0 : Int) ≤ (m : Int) + 1 := by omega
  have f9 : IntKind.i64.wrap ((m : Int) + 1 + 1 - 1) = (m : Int) + 1 := by rw [show (m : Int) + 1 + 1 - 1 = (m : Int) + 1 by omega]; exact f6
  go_enter Tryz.func90, Tryz.ntmps90
  go_wp2_with fail
  go_region
  clear hcellx hcelly
  go_wp2_with fail
  refine (HN.out).mono ?_
  intro e w1 hpost
  obtain ⟨hb1, v1, L1, en, rfl, hl1, hcase⟩ := (hpost.off hgl).both
  have HL1 := Lib.hid hl1
  have HCS := Lib.hid hcase
  have HO1 := Lib.hid (HO.out.keep hb1)
  clear hpost hl1 hcase
  obtain ⟨E, hE⟩ : ∃ E, E = errV en := ⟨_, rfl⟩
  rw [← hE]
  have HE := Lib.hid hE
  clear hE
  obtain ⟨A1, c1, rfl⟩ := slice_of_lists HL1.out
  have hb0 := Below.next hd hb1
  have hb2 : Below w1.heap.size w1 (w1.alloc (.cells #[.slice A1 L1.length c1] 72)) := by (repeat' (first | (with_reducible exact Below.refl _ _) | (with_reducible assumption) | (with_reducible refine Below.next ?_ (by with_reducible assumption)) | (with_reducible refine Below.drew ?_) | (with_reducible refine Below.laid ?_ _) | (with_reducible refine Below.setCell ?_ ?_ _) | (with_reducible refine size_of ?_) | (with_reducible refine Nat.le_succ_of_le ?_) | go_size))
  have hbase2 : base ≤ (w1.alloc (.cells #[.slice A1 L1.length c1] 72)).heap.size := Nat.le_trans hbase (Nat.le_trans hb0.size hb2.size)
  have hcell2 := (Blk.new w1 72 #[.slice A1 L1.length c1]).cell 0
  go_upto_region 15 with (fail)
  go_wp2_with (at_builtin; refine wpList_appRR _ rfl _ _ rfl base _ R rfl (HO1.out.keep hb2) w1.heap.size 1 (L1, .slice A1 L1.length c1) rfl hcell2 (HL1.out.keep hb2).lists (fun B e => by injection e with e; subst e; exact HL1.out.keep hb2) (by have := HM.out; omega) hbase2 ?_)
  intro v' w3 hown3 hg3
  have hbut : But (fun b => (Value.slice (some ⟨g, 0, none⟩) (m + 1 + 1) cap).ownBlock = some b) w w3 := (But.of_below (Below.next hb0 hb2)).trans ((But.of_grown hg3).wide fun b e => e)
  clear hg3 hcell2
  go_wp2
  go_ret2
  refine ⟨v', hbut, ?_⟩
  rcases HCS.out with ⟨h1, h2⟩ | ⟨h1, h2⟩
  · exact .inl ⟨by rw [HJ.out, h1], by rw [← h2, ← HE.out]; rfl⟩
  · refine .inr ⟨_, ?_, by rw [← h2, ← HE.out]; rfl, hown3⟩
    rw [HJ.out, h1, rVals_app, List.reverse_append]
    rfl

set_option maxHeartbeats 4000000 in
set_option maxRecDepth 100000 in
theorem cubes_do_then (base : Nat) (v : Value) (R : List LLV) (x y : LLV) (w : World) (hown : OwnR base w v (R ++ [x] ++ [y])) (hx : Venn.COk x.1) (hy : Venn.COk y.1) (hbase : base ≤ w.heap.size) (hR : R.length ≤ 100) :
    Calls Tryz.prog 90 #[.int .i64 13, v] w (DoPost base v (Venn.cStep (y.1 :: x.1 :: (rVals R).reverse) 13) w) := by
  obtain ⟨g, cap, rfl, hc1, hc2, hg, hgl⟩ := hown.form (by simp)
  have hlen : (R ++ [x] ++ [y]).length = R.length + 1 + 1 := by simp
  rw [hlen] at hown hc1 ⊢
  have hd : Below w.heap.size w w.drew := Below.drew (Below.refl w.heap.size w)
  have hcellx := hown.cell (k := R.length) (x := x) (by simp)
  have hcelly := hown.cell (k := R.length + 1) (x := y) (by simp)
  have hxo := (hown.off x (by simp) g rfl).keep hd
  have hyo := (hown.off y (by simp) g rfl).keep hd
  obtain ⟨A, c, hxv⟩ := slice_of_lists hxo
  obtain ⟨B, d, hyv⟩ := slice_of_lists hyo
  have HO := Lib.hid (((hown.pop (n := R.length + 1) (by simp)).pop (n := R.length) rfl).keep hd)
  have HN := Lib.hid (cubes_none g x.2 x.1 w.drew hgl hxo.lists (Venn.mem_of_cok hx) (fun c hc => (hx.1.1 c hc).2.2) hx.2)
  have HJ := Lib.hid (show Venn.cStep (y.1 :: x.1 :: (rVals R).reverse) 13 = (match Venn.thenV x.1 y.1 with | none => none | some z => some (z :: (rVals R).reverse)) from rfl)
  generalize Venn.cStep (y.1 :: x.1 :: (rVals R).reverse) 13 = J at HJ ⊢
  cases hK : Venn.noV x.1 with
  | none =>
    have HJ := Lib.hid (show J = none by rw [HJ.out]; unfold Venn.thenV; rw [hK])
    rw [hK] at HN
    clear hK
    rw [hxv] at hcellx HN
    rw [hyv] at hcelly
    obtain ⟨m, hm⟩ : ∃ m, m = R.length := ⟨_, rfl⟩
    rw [← hm] at hc1 hcellx hcelly HO hR ⊢
    have HM := Lib.hid hm
    clear hm hown hx hy hxv hyv hlen hxo hyo
    have f1 : IntKind.i64.wrap (m : Int) = (m : Int) := IntWalk.i64_in _ (by omega)
    have f2 : (m : Int) < (m : Int) + 1 + 1 := by omega
    have f3 : (0 : Int) ≤ (m : Int) := by omega
    have f4 : (m : Int) ≤ (cap : Int) := by omega
    have f5 : IntKind.i64.wrap ((m : Int) + 1 + 1 - 2) = (m : Int) := by rw [show (m : Int) + 1 + 1 - 2 = m by omega]; exact f1
    have f6 : IntKind.i64.wrap ((m : Int) + 1) = (m : Int) + 1 := IntWalk.i64_in _ (by omega)
    have f7 : (m : Int) + 1 < (m : Int) + 1 + 1 := by omega
    have f8 : (0 : Int) ≤ (m : Int) + 1 := by omega
    have f9 : IntKind.i64.wrap ((m : Int) + 1 + 1 - 1) = (m : Int) + 1 := by rw [show (m : Int) + 1 + 1 - 1 = (m : Int) + 1 by omega]; exact f6
    go_enter Tryz.func90, Tryz.ntmps90
    go_wp2_with fail
    go_region
    clear hcellx hcelly
    go_wp2_with fail
    refine (HN.out).mono ?_
    rintro e w1 ⟨hb1, ⟨_, rfl⟩ | ⟨_, _, h, _⟩⟩
    · rw [errV_ne (show (4 : Int) ≠ 0 by decide)]
      go_wp2
      go_ret2
      exact ⟨_, But.of_below (Below.next hd hb1), .inl ⟨HJ.out, by rw [errV_ne (show (4 : Int) ≠ 0 by decide)]; rfl⟩⟩
    · cases h
  | some Z =>
    have HZ := Lib.hid (Venn.noV_ok hK)
    have HJ := Lib.hid (show J = (match Venn.orV Z y.1 with | none => none | some z => some (z :: (rVals R).reverse)) by rw [HJ.out]; unfold Venn.thenV; rw [hK])
    rw [hK] at HN
    clear hK
    have HT := Lib.hid (show ∀ v1 w1, ListsOff g w1 v1 Z → ListsOff g w1 y.2 y.1 → Calls Tryz.prog 115 #[v1, y.2] w1 (CubesPost g (Venn.orV Z y.1) w1) from fun v1 w1 h1 h2 => cubes_one g v1 y.2 Z y.1 w1 h1 h2 HZ.out.2 hy.2)
    have HY := Lib.hid hyo
    generalize Venn.orV Z y.1 = K at HJ HT
    rw [hyv] at HT HY
    rw [hxv] at hcellx HN
    rw [hyv] at hcelly
    obtain ⟨m, hm⟩ : ∃ m, m = R.length := ⟨_, rfl⟩
    rw [← hm] at hc1 hcellx hcelly HO hR ⊢
    have HM := Lib.hid hm
    clear hm hown hx hy hxv hyv hlen hxo hyo
    have f1 : IntKind.i64.wrap (m : Int) = (m : Int) := IntWalk.i64_in _ (by omega)
    have f2 : (m : Int) < (m : Int) + 1 + 1 := by omega
    have f3 : (0 : Int) ≤ (m : Int) := by omega
    have f4 : (m : Int) ≤ (cap : Int) := by omega
    have f5 : IntKind.i64.wrap ((m : Int) + 1 + 1 - 2) = (m : Int) := by rw [show (m : Int) + 1 + 1 - 2 = m by omega]; exact f1
    have f6 : IntKind.i64.wrap ((m : Int) + 1) = (m : Int) + 1 := IntWalk.i64_in _ (by omega)
    have f7 : (m : Int) + 1 < (m : Int) + 1 + 1 := by omega
    have f8 : (0 : Int) ≤ (m : Int) + 1 := by omega
    have f9 : IntKind.i64.wrap ((m : Int) + 1 + 1 - 1) = (m : Int) + 1 := by rw [show (m : Int) + 1 + 1 - 1 = (m : Int) + 1 by omega]; exact f6
    go_enter Tryz.func90, Tryz.ntmps90
    go_wp2_with fail
    go_region
    clear hcellx hcelly
    go_wp2_with fail
    refine (HN.out).mono ?_
    rintro e w0 ⟨hb0, ⟨h, _⟩ | ⟨v1, L1, h, rfl, hl1⟩⟩
    · cases h
    injection h with h
    subst h
    obtain ⟨A0, c0, rfl⟩ := slice_of_lists hl1
    rw [errV_zero rfl]
    have HN := Lib.hid (HT.out _ w0 hl1 (HY.out.keep hb0))
    have HO := Lib.hid (HO.out.keep hb0)
    have hd := Below.next hd hb0
    have hgl : g < w0.heap.size := Nat.lt_of_lt_of_le hgl hb0.size
    clear hl1 hb0
    go_wp2_with fail
    refine (HN.out).mono ?_
    intro e w1 hpost
    obtain ⟨hb1, v1, L1, en, rfl, hl1, hcase⟩ := (hpost.off hgl).both
    have HL1 := Lib.hid hl1
    have HCS := Lib.hid hcase
    have HO1 := Lib.hid (HO.out.keep hb1)
    clear hpost hl1 hcase
    obtain ⟨E, hE⟩ : ∃ E, E = errV en := ⟨_, rfl⟩
    rw [← hE]
    have HE := Lib.hid hE
    clear hE
    obtain ⟨A1, c1, rfl⟩ := slice_of_lists HL1.out
    have hb0 := Below.next hd hb1
    have hb2 : Below w1.heap.size w1 (w1.alloc (.cells #[.slice A1 L1.length c1] 72)) := by (repeat' (first | (with_reducible exact Below.refl _ _) | (with_reducible assumption) | (with_reducible refine Below.next ?_ (by with_reducible assumption)) | (with_reducible refine Below.drew ?_) | (with_reducible refine Below.laid ?_ _) | (with_reducible refine Below.setCell ?_ ?_ _) | (with_reducible refine size_of ?_) | (with_reducible refine Nat.le_succ_of_le ?_) | go_size))
    have hbase2 : base ≤ (w1.alloc (.cells #[.slice A1 L1.length c1] 72)).heap.size := Nat.le_trans hbase (Nat.le_trans hb0.size hb2.size)
    have hcell2 := (Blk.new w1 72 #[.slice A1 L1.length c1]).cell 0
    go_upto_region 15 with (fail)
    go_wp2_with (at_builtin; refine wpList_appRR _ rfl _ _ rfl base _ R rfl (HO1.out.keep hb2) w1.heap.size 1 (L1, .slice A1 L1.length c1) rfl hcell2 (HL1.out.keep hb2).lists (fun B e => by injection e with e; subst e; exact HL1.out.keep hb2) (by have := HM.out; omega) hbase2 ?_)
    intro v' w3 hown3 hg3
    have hbut : But (fun b => (Value.slice (some ⟨g, 0, none⟩) (m + 1 + 1) cap).ownBlock = some b) w w3 := (But.of_below (Below.next hb0 hb2)).trans ((But.of_grown hg3).wide fun b e => e)
    clear hg3 hcell2
    go_wp2
    go_ret2
    refine ⟨v', hbut, ?_⟩
    rcases HCS.out with ⟨h1, h2⟩ | ⟨h1, h2⟩
    · exact .inl ⟨by rw [HJ.out, h1], by rw [← h2, ← HE.out]; rfl⟩
    · refine .inr ⟨_, ?_, by rw [← h2, ← HE.out]; rfl, hown3⟩
      rw [HJ.out, h1, rVals_app, List.reverse_append]
      rfl
end Go.Proofs.YtjnjgcibhjdmdaaGreatDoor

namespace Go.Proofs.YtjnjgcibhjdmdaaGreatDoor
open Go.RowKit

theorem rVals_split {P : List LLV} {l : List (List (List Int))} {a : List (List Int)} (h : rVals P = l ++ [a]) : ∃ R z, P = R ++ [z] ∧ rVals R = l ∧ z.1 = a := by
  unfold rVals at h
  obtain ⟨R, S, rfl, h1, h2⟩ := List.map_eq_append_iff.1 h
  obtain ⟨z, rfl, h3⟩ := List.map_eq_singleton_iff.1 h2
  exact ⟨R, z, rfl, h1, h3⟩
theorem cubes_do (base : Nat) (v : Value) (P : List LLV) (st : List (List (List Int))) (s : Int) (w : World) (hown : OwnR base w v P) (hst : rVals P = st.reverse) (hok : ∀ l ∈ st, Venn.COk l) (hs : s = 12 ∨ s = 10 ∨ s = 11 ∨ s = 13)
    (hpop : ¬ ((st.length : Int) < Venn.fTakes s)) (hbase : base ≤ w.heap.size) (hlen : P.length ≤ 100) : Calls Tryz.prog 90 #[.int .i64 s, v] w (DoPost base v (Venn.cStep st s) w) := by
  have hl : P.length = st.length := by have := congrArg List.length hst; rw [rVals_len, List.length_reverse] at this; exact this
  by_cases h12 : s = 12
  · subst h12
    match st, hst, hok, hpop, hl with
    | [], _, _, hpop, _ => simp [Venn.fTakes] at hpop
    | a :: r, hst, hok, _, hl =>
      rw [List.reverse_cons] at hst
      obtain ⟨R, z, rfl, h1, rfl⟩ := rVals_split hst
      have := cubes_do_no base v R z w hown (hok z.1 (by simp)) hbase (by simp at hlen; omega)
      rw [h1, List.reverse_reverse] at this
      exact this
  · have h3 : s = 10 ∨ s = 11 ∨ s = 13 := by omega
    have ht : Venn.fTakes s = 2 := by unfold Venn.fTakes; rw [if_neg h12, if_pos h3]
    rw [ht] at hpop
    match st, hst, hok, hpop, hl with
    | [], _, _, hpop, _ => simp at hpop
    | [_], _, _, hpop, _ => simp at hpop
    | b :: a :: r, hst, hok, _, hl =>
      rw [List.reverse_cons] at hst
      obtain ⟨R1, zb, rfl, h1, rfl⟩ := rVals_split hst
      rw [List.reverse_cons] at h1
      obtain ⟨R, za, rfl, h2, rfl⟩ := rVals_split h1
      have hR : R.length ≤ 100 := by simp at hlen; omega
      rcases h3 with rfl | rfl | rfl
      · have := cubes_do_and base v R za zb w hown (hok za.1 (by simp)) (hok zb.1 (by simp)) hbase hR
        rw [h2, List.reverse_reverse] at this
        exact this
      · have := cubes_do_or base v R za zb w hown (hok za.1 (by simp)) (hok zb.1 (by simp)) hbase hR
        rw [h2, List.reverse_reverse] at this
        exact this
      · have := cubes_do_then base v R za zb w hown (hok za.1 (by simp)) (hok zb.1 (by simp)) hbase hR
        rw [h2, List.reverse_reverse] at this
        exact this

theorem one_lists (w : World) (y : Int) (B : Nat) (hB : B < w.heap.size ∨ w.heap.size + 1 + 1 ≤ B) :
    ListsOff B ((w.alloc (.cells #[.int .i64 y] 3)).alloc (.cells #[.slice (some ⟨w.heap.size, 0, none⟩) 1 1] 30)) (.slice (some ⟨w.heap.size + 1, 0, none⟩) 1 1) [[y]] := by
  have hb : Below (w.alloc (.cells #[.int .i64 y] 3)).heap.size (w.alloc (.cells #[.int .i64 y] 3)) ((w.alloc (.cells #[.int .i64 y] 3)).alloc (.cells #[.slice (some ⟨w.heap.size, 0, none⟩) 1 1] 30)) := by (repeat' (first | (with_reducible exact Below.refl _ _) | (with_reducible assumption) | (with_reducible refine Below.next ?_ (by with_reducible assumption)) | (with_reducible refine Below.drew ?_) | (with_reducible refine Below.laid ?_ _) | (with_reducible refine Below.setCell ?_ ?_ _) | (with_reducible refine size_of ?_) | (with_reducible refine Nat.le_succ_of_le ?_) | go_size))
  refine ⟨_, _, [([y], .slice (some ⟨w.heap.size, 0, none⟩) 1 1)], rfl, rfl, fun j u hj => ⟨_, rfl, ?_⟩, fun x hx => ?_, Nat.le_refl _, by simp [maxLen], fun x hx _ b e => ?_, fun _ b e => ?_⟩
  · match j, hj with
    | 0, hj =>
      simp [lCells] at hj
      subst hj
      simp [Addr.add]
  · rw [List.mem_singleton.1 hx]; exact (IsInts.one w y 3).keep hb
  · rw [List.mem_singleton.1 hx] at e
    simp [Value.ownBlock] at e
    omega
  · simp [Value.ownBlock] at e
    omega
def AllPost (J : Option (List (List Int))) (w : World) (e : Ending) (w' : World) : Prop :=
  Below w.heap.size w w' ∧ ((J = none ∧ e = .returned (.tuple #[.slice none 0 0, errV 4])) ∨ ∃ v l, J = some l ∧ e = .returned (.tuple #[v, errV 0]) ∧ IsLists w' v l)
/-- Between two rounds. -/
structure CInv (w wr : World) (J : Option (List (List (List Int)))) (c : List Int) (v : Value) (k : Nat) (st : List (List (List Int))) : Prop where
  len : st.length ≤ k
  row : ∃ P, OwnR (w.heap.size + 1) wr v P ∧ rVals P = st.reverse
  below : Below w.heap.size w wr
  size : w.heap.size + 1 ≤ wr.heap.size
  ok : ∀ l ∈ st, Venn.COk l
  shape : Venn.fShape st.length (c.drop k) = true
  fold : J = Venn.cFold st (c.drop k)
set_option maxHeartbeats 4000000 in
set_option maxRecDepth 100000 in
theorem cubes_All (sa sc : Value) (n : Int) (c : List Int) (w : World) (hcl : IsInts w sc c) (h20 : c.length ≤ 20) (hco : c.all (Venn.codeOk n) = true) (hsh : Venn.fShape 0 c = true) :
    Calls Tryz.prog 65 #[.agg #[sa, sc]] w (AllPost (Venn.cubesO c) w) := by
  obtain ⟨C, cC, rfl, hr, hlc, hld⟩ := hcl
  have HCO := Lib.hid (fun x hx => List.all_eq_true.1 hco x hx)
  have HR := Lib.hid hr
  have HJ := Lib.hid (show Venn.cubesO c = (match Venn.cFold [] c with | none => none | some st => some (st.headD [])) from rfl)
  have HF := Lib.hid (show Venn.cFold [] c = Venn.cFold [] (c.drop 0) by rw [List.drop_zero])
  generalize Venn.cubesO c = J at HJ ⊢
  generalize Venn.cFold [] c = K at HJ HF
  have HS := Lib.hid hsh
  clear hr hco hsh
  have hb0 : Below w.heap.size w (w.alloc (.cells #[sa, .slice C c.length cC] 38)) := by (repeat' (first | (with_reducible exact Below.refl _ _) | (with_reducible assumption) | (with_reducible refine Below.next ?_ (by with_reducible assumption)) | (with_reducible refine Below.drew ?_) | (with_reducible refine Below.laid ?_ _) | (with_reducible refine Below.setCell ?_ ?_ _) | (with_reducible refine size_of ?_) | (with_reducible refine Nat.le_succ_of_le ?_) | go_size))
  have B0 := Blk.new w 38 #[sa, .slice C c.length cC]
  have b1 := B0.cell 1
  simp at b1
  go_enter Tryz.func65, Tryz.ntmps65
  go_wp2
  go_loopw [4, 12] (fun v i wr => ∃ (k : Nat) (st : List (List (List Int))), k ≤ c.length ∧ i = .int .i64 k ∧ CInv w wr K c v k st) (fun _ i _ => c.length - (intOf i).toNat)
  case atStart => exact ⟨0, [], Nat.zero_le _, rfl, by simp, ⟨[], OwnR.nil _ _, rfl⟩, hb0, by simp, (fun l h => by cases h), by simpa using HS.out, HF.out⟩
  case round =>
    clear b1 B0 hb0
    obtain ⟨k, st, hk, rfl, hinv⟩ := hrel
    obtain ⟨wo, rfl⟩ : ∃ wo : World, wo = wr := ⟨_, rfl⟩
    obtain ⟨P, hown, hst⟩ := hinv.row
    obtain ⟨A5, cp5, rfl⟩ := hown.slice
    have hPl : P.length = st.length := by have := congrArg List.length hst; rw [rVals_len, List.length_reverse] at this; exact this
    have HI := Lib.hid hinv
    have HO := Lib.hid hown
    have HST := Lib.hid hst
    have HPL := Lib.hid hPl
    clear hinv hown hst hPl
    by_cases hlt : k < c.length
    · obtain ⟨ad, rfl, hcell0⟩ := HR.out.int hlt
      have hcell := cell_keep HI.out.below hcell0
      have hco := HCO.out _ (List.getElem_mem hlt)
      have HD := Lib.hid (List.drop_eq_getElem_cons hlt)
      generalize c[k] = x at hcell hcell0 HD hco
      have hk1 : (k : Int) < (c.length : Int) := by omega
      have hk0 : (0 : Int) ≤ (k : Int) := by omega
      have hpop : ¬ ((st.length : Int) < Venn.fTakes x) := by
        have hs := HI.out.shape
        rw [HD.out, Venn.fShape] at hs
        split at hs
        · cases hs
        · assumption
      have hsh : Venn.fShape (st.length + (1 - Venn.fTakes x)) (c.drop (k + 1)) = true := by
        have hs := HI.out.shape
        rw [HD.out, Venn.fShape, if_neg hpop] at hs
        exact hs
      have HP := Lib.hid hpop
      have HSH := Lib.hid hsh
      have HKF := Lib.hid (show K = (match Venn.cStep st x with | none => none | some st' => Venn.cFold st' (c.drop (k + 1))) by
        rw [HI.out.fold, HD.out]; rfl)
      clear hcell0 hpop hsh
      by_cases hx6 : x < 6
      · have hx0 : 0 ≤ x := by rcases Venn.codeOk_cases hco with h | h | h | h | h <;> omega
        have HC := Lib.hid (show Venn.cStep st x = some ([[x + 1]] :: st) by unfold Venn.cStep; rw [if_neg (by omega), if_neg (by omega)])
        have hw : IntKind.i64.wrap (x + 1) = x + 1 := IntWalk.i64_in _ (by omega)
        have HOK := Lib.hid (Venn.cStep_ok hco HI.out.ok HC.out)
        have HLN := Lib.hid (Venn.cStep_length HP.out HC.out)
        clear hco
        go_upto_region 6 with (fail)
        clear hcell
        have hb3 : Below wo.heap.size wo (((wo.alloc (.cells #[.int .i64 (x + 1)] 3)).alloc (.cells #[.slice (some ⟨wo.heap.size, 0, none⟩) 1 1] 30)).alloc (.cells #[.slice (some ⟨wo.heap.size + 1, 0, none⟩) 1 1] 72)) := by (repeat' (first | (with_reducible exact Below.refl _ _) | (with_reducible assumption) | (with_reducible refine Below.next ?_ (by with_reducible assumption)) | (with_reducible refine Below.drew ?_) | (with_reducible refine Below.laid ?_ _) | (with_reducible refine Below.setCell ?_ ?_ _) | (with_reducible refine size_of ?_) | (with_reducible refine Nat.le_succ_of_le ?_) | go_size))
        have hb23 : Below ((wo.alloc (.cells #[.int .i64 (x + 1)] 3)).alloc (.cells #[.slice (some ⟨wo.heap.size, 0, none⟩) 1 1] 30)).heap.size ((wo.alloc (.cells #[.int .i64 (x + 1)] 3)).alloc (.cells #[.slice (some ⟨wo.heap.size, 0, none⟩) 1 1] 30)) (((wo.alloc (.cells #[.int .i64 (x + 1)] 3)).alloc (.cells #[.slice (some ⟨wo.heap.size, 0, none⟩) 1 1] 30)).alloc (.cells #[.slice (some ⟨wo.heap.size + 1, 0, none⟩) 1 1] 72)) := Below.laid (Below.refl _ _) _
        have hcell2 : (((wo.alloc (.cells #[.int .i64 (x + 1)] 3)).alloc (.cells #[.slice (some ⟨wo.heap.size, 0, none⟩) 1 1] 30)).alloc (.cells #[.slice (some ⟨wo.heap.size + 1, 0, none⟩) 1 1] 72)).cell? ⟨wo.heap.size + 1 + 1, 0, none⟩ = some (.slice (some ⟨wo.heap.size + 1, 0, none⟩) 1 1) := (Blk.newAt (w := (wo.alloc (.cells #[.int .i64 (x + 1)] 3)).alloc (.cells #[.slice (some ⟨wo.heap.size, 0, none⟩) 1 1] 30)) (g := wo.heap.size + 1 + 1) (by simp) 72 #[.slice (some ⟨wo.heap.size + 1, 0, none⟩) 1 1]).cell 0
        have hlo := fun B hB => (one_lists wo (x + 1) B hB).keep hb23
        have hbase : w.heap.size + 1 ≤ (((wo.alloc (.cells #[.int .i64 (x + 1)] 3)).alloc (.cells #[.slice (some ⟨wo.heap.size, 0, none⟩) 1 1] 30)).alloc (.cells #[.slice (some ⟨wo.heap.size + 1, 0, none⟩) 1 1] 72)).heap.size := Nat.le_trans HI.out.size hb3.size
        have HO3 := Lib.hid (HO.out.keep hb3)
        have hPlen : P.length < 1000000 := by have := HPL.out; have := HI.out.len; omega
        go_wp2_with (at_builtin; refine wpList_appRR _ rfl _ _ rfl (w.heap.size + 1) _ P rfl HO3.out (wo.heap.size + 1 + 1) 1 ([[x + 1]], .slice (some ⟨wo.heap.size + 1, 0, none⟩) 1 1) rfl hcell2 (hlo (wo.heap.size + 1 + 1) (.inr (Nat.le_refl _))).lists (fun B e => hlo B (.inl (HO.out.own.lt B e).2)) hPlen hbase ?_)
        intro v' w3 hown3 hg3
        have hbel := (HI.out.below.trans (hb3.mono HI.out.below.size)).grown hg3 (Nat.le_trans HI.out.below.size hb3.size) (fun b e => by have := (HO.out.own.lt b e).1; omega)
        have hs3 := Nat.le_trans hbase hg3.size
        clear hg3 hlo hcell2 hb3 hb23 hbase hPlen
        go_wp2
        go_roundw
        case rel =>
          refine ⟨k + 1, [[x + 1]] :: st, by omega, by go_num, by have := HI.out.len; simp; omega, ⟨_, hown3, ?_⟩, hbel, hs3, HOK.out, ?_, ?_⟩
          · rw [rVals_app, HST.out, List.reverse_cons]; rfl
          · rw [HLN.out]; exact HSH.out
          · rw [HKF.out, HC.out]
        case measure => simp [intOf]; omega
      · have hs : x = 12 ∨ x = 10 ∨ x = 11 ∨ x = 13 := by rcases Venn.codeOk_cases hco with h | h | h | h | h <;> omega
        have HD := Lib.hid (cubes_do (w.heap.size + 1) _ P st x wo HO.out HST.out HI.out.ok hs HP.out HI.out.size (by have := HPL.out; have := HI.out.len; omega))
        have HCO := Lib.hid hco
        clear hco hs
        go_wp2_with fail
        clear hcell
        refine (HD.out).mono ?_
        rintro e w2 ⟨v', hbut, ⟨hJ, rfl⟩ | ⟨P', hJ, rfl, hown2⟩⟩
        · have hbel := HI.out.below.trans (hbut.below HI.out.below.size (fun b e => by have := (HO.out.own.lt b e).1; omega))
          have HK := Lib.hid (show K = none by rw [HKF.out, hJ])
          rw [errV_ne (show (4 : Int) ≠ 0 by decide)]
          clear hbut hJ
          go_wp2
          go_ret2
          exact ⟨hbel, .inl ⟨by rw [HJ.out, HK.out], by rw [errV_ne (show (4 : Int) ≠ 0 by decide)]; rfl⟩⟩
        · have hbel := HI.out.below.trans (hbut.below HI.out.below.size (fun b e => by have := (HO.out.own.lt b e).1; omega))
          have hs2 := Nat.le_trans HI.out.size hbut.size
          rw [errV_zero rfl]
          obtain ⟨A6, c6, rfl⟩ := hown2.slice
          have HO2 := Lib.hid hown2
          have HC := Lib.hid hJ
          clear hbut hJ hown2
          go_wp2
          go_roundw
          case rel =>
            have hln := Venn.cStep_length (Int.not_lt.2 HP.out) HC.out
            have hrl : ((rVals P').reverse).length = P'.length := by rw [List.length_reverse, rVals_len]
            refine ⟨k + 1, (rVals P').reverse, by omega, by go_num, ?_, ⟨P', HO2.out, by rw [List.reverse_reverse]⟩, hbel, hs2, Venn.cStep_ok HCO.out HI.out.ok HC.out, ?_, ?_⟩
            · have := HI.out.len
              have := Venn.fTakes_012 x
              omega
            · rw [hln]; exact HSH.out
            · rw [HKF.out, HC.out]
          case measure => simp [intOf]; omega
    · have hk' : k = c.length := by omega
      have hs := HI.out.shape
      have hf := HI.out.fold
      rw [hk', List.drop_eq_nil_of_le (Nat.le_refl _)] at hs hf
      simp only [Venn.fShape, decide_eq_true_eq] at hs
      have hs1 : st.length = 1 := by omega
      obtain ⟨l, rfl⟩ : ∃ l, st = [l] := by
        match st, hs1 with
        | [l], _ => exact ⟨l, rfl⟩
      obtain ⟨z, rfl⟩ : ∃ z, P = [z] := by
        have hp1 : P.length = 1 := HPL.out
        match P, hp1 with
        | [z], _ => exact ⟨z, rfl⟩
      have hz : z.1 = l := by
        have := HST.out
        simp [rVals] at this
        exact this
      have HJ := Lib.hid (show J = some z.1 by rw [HJ.out, hf, hz]; rfl)
      obtain ⟨g, cap, e1, _, _, _, _⟩ := HO.out.form (by simp)
      injection e1 with e1 e2 e3
      subst e1 e3
      have hc0 := HO.out.cell (k := 0) (x := z) rfl
      have HZ := Lib.hid (HO.out.is z (by simp))
      have HB := Lib.hid HI.out.below
      obtain ⟨zl, zv⟩ := z
      simp only at hc0 HZ HJ
      clear hs hf hs1 hz e2
      go_wp2
      go_ret2
      exact ⟨HB.out, .inr ⟨_, _, HJ.out, by rw [errV_zero rfl]; rfl, HZ.out⟩⟩
end Go.Proofs.YtjnjgcibhjdmdaaGreatDoor

namespace Go.Proofs.YtjnjgcibhjdmdaaGreatDoor
open Go.RowKit

def OfPost (f : Venn.Form) (w : World) (e : Ending) (w' : World) : Prop :=
  Below w.heap.size w w' ∧ ∃ v, e = .returned (.tuple #[v, errV (Venn.cubesErr f)]) ∧ IsLists w' v (Venn.cubesV f)
set_option maxHeartbeats 1000000 in
theorem cubes_Of (sa sc : Value) (l : List Venn.Atom) (c : List Int) (w : World) (ha : IsAtoms w sa l) (hc : IsInts w sc c) (hk : KindsOk w) :
    Calls Tryz.prog 38 #[.agg #[sa, sc]] w (OfPost ⟨l, c⟩ w) := by
  have hb0 : Below w.heap.size w (w.alloc (.cells #[sa, sc] 38)) := by (repeat' (first | (with_reducible exact Below.refl _ _) | (with_reducible assumption) | (with_reducible refine Below.next ?_ (by with_reducible assumption)) | (with_reducible refine Below.drew ?_) | (with_reducible refine Below.laid ?_ _) | (with_reducible refine Below.setCell ?_ ?_ _) | (with_reducible refine size_of ?_) | (with_reducible refine Nat.le_succ_of_le ?_) | go_size))
  have HCH := Lib.hid (form_Check sa sc l c _ (ha.keep hb0) (hc.keep hb0) (hk.keep hb0))
  have B0 := Lib.hid (Blk.new w 38 #[sa, sc])
  have b0 := (B0.out).cell 0
  have b1 := (B0.out).cell 1
  simp at b0 b1
  by_cases hz : Venn.formChk ⟨l, c⟩ = 0
  · obtain ⟨p1, p2, p3, h20, p5, p6, p7⟩ := Venn.formChk_parts hz
    have HA := Lib.hid (fun W (hW : Below w.heap.size w W) => cubes_All sa sc (l.length : Int) c W (hc.keep hW) h20 p6 p7)
    rw [errV_zero hz] at HCH
    cases hJ : Venn.cubesO c with
    | none =>
      have HE := Lib.hid (show Venn.cubesErr ⟨l, c⟩ = 4 ∧ Venn.cubesV ⟨l, c⟩ = [] by unfold Venn.cubesErr Venn.cubesV; rw [if_pos hz, if_pos hz, hJ]; exact ⟨rfl, rfl⟩)
      rw [hJ] at HA
      clear hz hJ p1 p2 p3 h20 p5 p6 p7 hk
      obtain ⟨A, cA, rfl, _⟩ := ha
      obtain ⟨C, cC, rfl, _⟩ := hc
      go_enter Tryz.func38, Tryz.ntmps38
      go_wp2_with fail
      refine (HCH.out).mono ?_
      rintro e w1 ⟨rfl, hb1⟩
      have hq := Below.next hb0 hb1
      clear b0 b1
      have B1 := B0.out.keep hb1
      have b0 := B1.cell 0
      have b1 := B1.cell 1
      simp at b0 b1
      go_wp2_with fail
      refine (HA.out _ hq).mono ?_
      rintro e w2 ⟨hb2, ⟨_, rfl⟩ | ⟨_, _, h, _⟩⟩
      · have hq2 := Below.next hq hb2
        go_wp2
        go_ret2
        exact ⟨hq2, _, by rw [HE.out.1]; rfl, by rw [HE.out.2]; exact IsLists.nil _⟩
      · cases h
    | some L =>
      have HE := Lib.hid (show Venn.cubesErr ⟨l, c⟩ = 0 ∧ Venn.cubesV ⟨l, c⟩ = L by unfold Venn.cubesErr Venn.cubesV; rw [if_pos hz, if_pos hz, hJ]; exact ⟨rfl, rfl⟩)
      rw [hJ] at HA
      clear hz hJ p1 p2 p3 h20 p5 p6 p7 hk
      obtain ⟨A, cA, rfl, _⟩ := ha
      obtain ⟨C, cC, rfl, _⟩ := hc
      go_enter Tryz.func38, Tryz.ntmps38
      go_wp2_with fail
      refine (HCH.out).mono ?_
      rintro e w1 ⟨rfl, hb1⟩
      have hq := Below.next hb0 hb1
      clear b0 b1
      have B1 := B0.out.keep hb1
      have b0 := B1.cell 0
      have b1 := B1.cell 1
      simp at b0 b1
      go_wp2_with fail
      refine (HA.out _ hq).mono ?_
      rintro e w2 ⟨hb2, ⟨h, _⟩ | ⟨v, L', h, rfl, hI⟩⟩
      · cases h
      · injection h with h
        subst h
        have hq2 := Below.next hq hb2
        go_wp2
        go_ret2
        exact ⟨hq2, _, by rw [HE.out.1]; rfl, by rw [HE.out.2]; exact hI⟩
  · have HE := Lib.hid (show errV (Venn.cubesErr ⟨l, c⟩) = errV (Venn.formChk ⟨l, c⟩) ∧ Venn.cubesV ⟨l, c⟩ = [] by unfold Venn.cubesErr Venn.cubesV; rw [if_neg hz, if_neg hz]; exact ⟨rfl, rfl⟩)
    rw [errV_ne hz] at HCH HE
    generalize Venn.formChk ⟨l, c⟩ = E at HCH HE
    clear hz hk
    obtain ⟨A, cA, rfl, _⟩ := ha
    obtain ⟨C, cC, rfl, _⟩ := hc
    go_enter Tryz.func38, Tryz.ntmps38
    go_wp2_with fail
    refine (HCH.out).mono ?_
    rintro e w1 ⟨rfl, hb1⟩
    have hq := Below.next hb0 hb1
    go_wp2
    go_ret2
    exact ⟨hq, _, by rw [HE.out.1]; rfl, by rw [HE.out.2]; exact IsLists.nil _⟩

theorem anyNot_all (p : Int → Bool) (l : List Int) : (!l.any fun m => !p m) = l.all p := by
  induction l with
  | nil => rfl
  | cons x r ih => simp only [List.any_cons, List.all_cons, Bool.not_or, Bool.not_not, ih]
/-- A member that may not be, of n atoms. -/
def badM (n m : Int) : Bool := decide (m = 0) || decide (m < -n) || decide (n < m)
theorem any_lVals (q : List Int → Bool) (p : List LV) : (p.any fun x => q x.1) = (lVals p).any q := by
  unfold lVals
  rw [List.any_map]
  rfl
/-- The fault of lists of cubes, and whether one holds. -/
def cHoldsChk (f : Venn.Form) (L : List (List Int)) (w : Venn.World) : Int :=
  if Venn.formChk f = 0 then (if (L.any fun c => c.any (badM f.atoms.length)) = true then 1 else Venn.worldChk w) else Venn.formChk f
def cHoldsV (f : Venn.Form) (L : List (List Int)) (w : Venn.World) : Bool := if cHoldsChk f L w = 0 then Venn.someV (Venn.valA f.atoms w) L else false
theorem not_bad {n m : Int} (h : badM n m = false) : m ≠ 0 ∧ -n ≤ m ∧ m ≤ n := by
  unfold badM at h
  simp only [Bool.or_eq_false_iff, decide_eq_false_iff_not] at h
  omega
end Go.Proofs.YtjnjgcibhjdmdaaGreatDoor

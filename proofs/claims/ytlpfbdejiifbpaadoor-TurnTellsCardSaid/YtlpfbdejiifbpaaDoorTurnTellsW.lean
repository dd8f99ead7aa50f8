/-
  THE WALK of vennlaw2.TurnTells.
-/
import Derived.Test.YtlpfbdejiifbpaaDoorTurnThings
import Derived.Test.YtlpfbdejiifbpaaDoorTurnNames
import Derived.Test.YtlpfbdejiifbpaaDoorRefOnce
import Derived.Test.YtlpfbdejiifbpaaDoorVennThing
import Derived.Test.YtlpfbdejiifbpaaDoorRefForm
import Derived.Test.YtlpfbdejiifbpaaDoorRefTerm
import Derived.Test.YtlpfbdejiifbpaaDoorRefSets
import Derived.Test.YtlpfbdejiifbpaaDoorRefMade
import Derived.Test.YtlpfbdejiifbpaaDoorSameForm
import Derived.Test.YtlpfbdejiifbpaaDoorEql
import Derived.Test.YtlpfbdejiifbpaaDoorLawF
import Derived.Deep.DeepCutAuto
import Derived.Deep.CutBlock
import Derived.IntWalk
import Derived.Maps.AppendAt
namespace Go.Proofs.YtlpfbdejiifbpaaDoor
open Go.RowKit

/-- The three boxes of the arguments. -/
structure TtAt (w wx : World) (va vc n0 n1 n2 th a b d : Value) : Prop where
  below : Below w.heap.size w wx
  form : Blk wx w.heap.size 25 #[va, vc]
  names : Blk wx (w.heap.size + 1) 26 #[n0, n1, n2]
  world : Blk wx (w.heap.size + 1 + 1) 28 #[th, a, b, d]
theorem TtAt.keep {w wx wy : World} {va vc n0 n1 n2 th a b d : Value} (h : TtAt w wx va vc n0 n1 n2 th a b d) (hb : Below wx.heap.size wx wy) : TtAt w wy va vc n0 n1 n2 th a b d :=
  ⟨Below.next h.below hb, h.form.keep hb, h.names.keep hb, h.world.keep hb⟩
theorem TtAt.but {w wx wy : World} {va vc n0 n1 n2 th a b d : Value} (h : TtAt w wx va vc n0 n1 n2 th a b d) {X : Nat} (hb : But (fun k => k = X) wx wy) (hX : w.heap.size + 1 + 1 < X) : TtAt w wy va vc n0 n1 n2 th a b d :=
  ⟨h.below.trans (hb.below h.below.size (fun k e => by omega)), h.form.but hb (by omega), h.names.but hb (by omega), h.world.but hb (by omega)⟩
theorem but_one (wx : World) (X i : Nat) (u : Value) : But (fun k => k = X) wx (wx.setCell ⟨X, i, none⟩ u) := (But.refl (fun k => k = X) wx).set_ (p := ⟨X, i, none⟩) rfl u
/-- With the wanted world's box. -/
structure QtAt (w wx : World) (va vc n0 n1 n2 th a b d : Value) (O : Nat) (cs : Array Value) : Prop where
  tt : TtAt w wx va vc n0 n1 n2 th a b d
  out : Blk wx O 28 cs
  lo : w.heap.size + 1 + 1 < O
theorem TtAt.drew {w wx : World} {va vc n0 n1 n2 th a b d : Value} (h : TtAt w wx va vc n0 n1 n2 th a b d) : TtAt w wx.drew va vc n0 n1 n2 th a b d :=
  ⟨h.below.drew, h.form.drew, h.names.drew, h.world.drew⟩
theorem QtAt.drew {w wx : World} {va vc n0 n1 n2 th a b d : Value} {O : Nat} {cs : Array Value} (h : QtAt w wx va vc n0 n1 n2 th a b d O cs) : QtAt w wx.drew va vc n0 n1 n2 th a b d O cs :=
  ⟨h.tt.drew, h.out.drew, h.lo⟩
theorem QtAt.store {w wx : World} {va vc n0 n1 n2 th a b d : Value} {O : Nat} {cs : Array Value} (h : QtAt w wx va vc n0 n1 n2 th a b d O cs) (i : Nat) (u : Value) : QtAt w (wx.setCell ⟨O, i, none⟩ u) va vc n0 n1 n2 th a b d O (cs.setIfInBounds i u) :=
  ⟨h.tt.but (but_one wx O i u) h.lo, h.out.set_ i u, h.lo⟩
theorem QtAt.put {w wx : World} {va vc n0 n1 n2 th a b d : Value} {O : Nat} {cs : Array Value} (h : QtAt w wx va vc n0 n1 n2 th a b d O cs) (i : Nat) (u : Value) : QtAt w (wx.setCell ⟨O, i, none⟩ u).drew va vc n0 n1 n2 th a b d O (cs.setIfInBounds i u) :=
  (h.store i u).drew
theorem blk_some {w : World} {g : Nat} {t : TypeId} {cs : Array Value} (h : Blk w g t cs) {i : Nat} (hi : i < cs.size) : ∃ z, w.cell? ⟨g, i, none⟩ = some z :=
  ⟨cs[i], by rw [h.cell i]; exact Array.getElem?_eq_getElem hi⟩
theorem six_set {th a b d n0 n1 n2 rt ra rb rd : Int} (h : (n0 = 0 ∧ n1 = 1 ∧ n2 = 2) ∨ (n0 = 0 ∧ n1 = 2 ∧ n2 = 1) ∨ (n0 = 1 ∧ n1 = 0 ∧ n2 = 2) ∨ (n0 = 1 ∧ n1 = 2 ∧ n2 = 0) ∨ (n0 = 2 ∧ n1 = 0 ∧ n2 = 1) ∨ (n0 = 2 ∧ n1 = 1 ∧ n2 = 0))
    (hr : (⟨rt, ra, rb, rd⟩ : Venn.World) = Venn.renW n0 n1 ⟨th, a, b, d⟩) :
    ∃ j0 j1 j2 : Nat, n0 = (j0 : Int) ∧ n1 = (j1 : Int) ∧ n2 = (j2 : Int) ∧ j0 < 3 ∧ j1 < 3 ∧ j2 < 3 ∧ (((#[.int .i64 th, .int .i64 0, .int .i64 0, .int .i64 0] : Array Value).setIfInBounds (1 + j0) (.int .i64 a)).setIfInBounds (1 + j1) (.int .i64 b)).setIfInBounds (1 + j2) (.int .i64 d) = #[.int .i64 rt, .int .i64 ra, .int .i64 rb, .int .i64 rd] := by
  rcases h with ⟨rfl, rfl, rfl⟩ | ⟨rfl, rfl, rfl⟩ | ⟨rfl, rfl, rfl⟩ | ⟨rfl, rfl, rfl⟩ | ⟨rfl, rfl, rfl⟩ | ⟨rfl, rfl, rfl⟩
  · cases hr; exact ⟨0, 1, 2, rfl, rfl, rfl, by decide, by decide, by decide, rfl⟩
  · cases hr; exact ⟨0, 2, 1, rfl, rfl, rfl, by decide, by decide, by decide, rfl⟩
  · cases hr; exact ⟨1, 0, 2, rfl, rfl, rfl, by decide, by decide, by decide, rfl⟩
  · cases hr; exact ⟨1, 2, 0, rfl, rfl, rfl, by decide, by decide, by decide, rfl⟩
  · cases hr; exact ⟨2, 0, 1, rfl, rfl, rfl, by decide, by decide, by decide, rfl⟩
  · cases hr; exact ⟨2, 1, 0, rfl, rfl, rfl, by decide, by decide, by decide, rfl⟩
/-- append(atoms, one), and where the row lies then. -/
theorem wpList_appA_at {ops : Array Oper} {rest : List Oper} {o : Oper} {a : Act} {Q : Exit → Act → World → Prop} (w : World) (hgd : o.guard = none) (s x : Operand)
    (ho : o.op = .call { callee := .builtin .append, args := #[s, x], argTypes := #[22, 22] })
    (base : Nat) (v : Value) (n : Nat) (xs : List Value) (hs : a.eval s = v) (hown : w.ownsRow base 32 4 v n xs)
    (ad : Addr) (c : Nat) (p : List AV) (hx : a.eval x = .slice (some ad) p.length c) (hr : Rd w (some ad) (aCells p)) (hp : AOk w p) (hn : n + p.length ≤ 1000) (hbase : base ≤ w.heap.size)
    (h : ∀ v' w', w'.ownsRow base 32 4 v' (n + p.length) (xs ++ aCells p) → w.grownBy w' v.ownBlock → (v'.ownBlock = v.ownBlock ∨ v'.ownBlock = some w.heap.size) → wpList Tryd.prog ops Q rest (a.put o.dst v') w') : wpList Tryd.prog ops Q (o :: rest) a w := by
  obtain ⟨i0, hi, hz0, hz1, hz2⟩ := info_parts atom_info
  refine wpList_append_own_at w hgd s x _ ho base _ i0 _ 4 64 Tryd.underlying22 hi hz0 hz1 hz2 rfl (by decide) v n xs hs hown ad p.length c (aCells p) hx (aCells_len p) ?_ (aCells_one hp) (by unfold maxLen; omega) (by omega) hbase (fun v' w' h1 h2 _ h4 => h v' w' h1 h2 h4)
  intro j u hj
  obtain ⟨ad', e, hc⟩ := hr j u hj
  cases e
  exact hc
/-- The wanted formula while its atoms come: H: the heap's size when the round began. -/
structure RnAt (w wx : World) (X H : Nat) (u0 u1 u2 u3 u4 u5 u6 u7 u8 : Value) (va vc : Value) (p1 : List AV) (k : Nat) : Prop where
  tt : TtAt w wx u0 u1 u2 u3 u4 u5 u6 u7 u8
  bn : Blk wx X 25 #[va, vc]
  own : wx.ownsRow (X + 1) 32 4 va k (aCells p1)
  ok : AOk wx p1
  far : ∀ x ∈ p1, ∀ b, (x.2.1.ownBlock = some b ∨ x.2.2.ownBlock = some b) → X < b ∧ b < H ∧ va.ownBlock ≠ some b
  row : ∀ b, va.ownBlock = some b → b < H
  lo : w.heap.size + 1 + 1 < X
  hi : X < H
  size : H ≤ wx.heap.size
theorem RnAt.keep {w wx wy : World} {X H : Nat} {u0 u1 u2 u3 u4 u5 u6 u7 u8 va vc : Value} {p1 : List AV} {k : Nat} (h : RnAt w wx X H u0 u1 u2 u3 u4 u5 u6 u7 u8 va vc p1 k) (hb : Below wx.heap.size wx wy) : RnAt w wy X H u0 u1 u2 u3 u4 u5 u6 u7 u8 va vc p1 k :=
  ⟨h.tt.keep hb, h.bn.keep hb, own_below h.own hb, h.ok.keep hb, h.far, h.row, h.lo, h.hi, Nat.le_trans h.size hb.size⟩
theorem RnAt.but {w wx wy : World} {X H : Nat} {u0 u1 u2 u3 u4 u5 u6 u7 u8 va vc : Value} {p1 : List AV} {k : Nat} (h : RnAt w wx X H u0 u1 u2 u3 u4 u5 u6 u7 u8 va vc p1 k) {Y : Nat} (hb : But (fun b => b = Y) wx wy) (hY : H ≤ Y) : RnAt w wy X H u0 u1 u2 u3 u4 u5 u6 u7 u8 va vc p1 k := by
  have h1 := h.lo
  have h2 := h.hi
  exact ⟨h.tt.but hb (by omega), h.bn.but hb (by omega), own_but h.own hb (fun b e hc => by have := h.row b e; omega), h.ok.but hb (fun x hx b e hc => by have := (h.far x hx b e).2.1; omega), h.far, h.row, h.lo, h.hi, Nat.le_trans h.size hb.size⟩
/-- One more atom. -/
theorem RnAt.step {w wx wy : World} {X H : Nat} {u0 u1 u2 u3 u4 u5 u6 u7 u8 va vc va' : Value} {p1 : List AV} {k : Nat} (h : RnAt w wx X H u0 u1 u2 u3 u4 u5 u6 u7 u8 va vc p1 k) {y : AV} (hg : wx.grownBy wy va.ownBlock) (hown : wy.ownsRow (X + 1) 32 4 va' (k + 1) (aCells (p1 ++ [y])))
    (hat : va'.ownBlock = va.ownBlock ∨ va'.ownBlock = some wx.heap.size) (hs : IsInts wx y.2.1 y.1.s) (ht : IsInts wx y.2.2 y.1.t) (hy : ∀ b, (y.2.1.ownBlock = some b ∨ y.2.2.ownBlock = some b) → H ≤ b ∧ b < wx.heap.size) :
    RnAt w (wy.setCell ⟨X, 0, none⟩ va') X (wy.setCell ⟨X, 0, none⟩ va').heap.size u0 u1 u2 u3 u4 u5 u6 u7 u8 va' vc (p1 ++ [y]) (k + 1) := by
  have h1 := h.lo
  have h2 := h.hi
  have h3 := h.size
  have hbut : But (fun b => va.ownBlock = some b) wx wy := But.of_grown hg
  have hX : ¬ va.ownBlock = some X := fun e => by have := (h.own.lt X e).1; omega
  have hsz := hbut.size
  have hb2 : But (fun b => b = X) wy (wy.setCell ⟨X, 0, none⟩ va') := but_one wy X 0 va'
  have hlt := h.tt.world.lt
  have hwo : ∀ b, va.ownBlock = some b → w.heap.size + 1 + 1 < b := fun b e => by have := (h.own.lt b e).1; omega
  refine ⟨?_, ?_, ?_, ?_, ?_, ?_, h1, ?_, Nat.le_refl _⟩
  · refine TtAt.but ?_ hb2 h1
    exact ⟨h.tt.below.trans (hbut.below h.tt.below.size (fun b e => by have := hwo b e; omega)), h.tt.form.but hbut (fun e => by have := hwo _ e; omega), h.tt.names.but hbut (fun e => by have := hwo _ e; omega), h.tt.world.but hbut (fun e => by have := hwo _ e; omega)⟩
  · have := (h.bn.but hbut hX).set_ 0 va'
    simpa using this
  · exact own_but hown hb2 (fun b e hc => by have := (hown.lt b e).1; omega)
  · intro x hx
    rcases List.mem_append.1 hx with hx | hx
    · have hf := h.far x hx
      exact ⟨(((h.ok x hx).1.but hbut fun b e => (hf b (.inl e)).2.2)).but hb2 fun b e hc => by have := (hf b (.inl e)).1; omega, (((h.ok x hx).2.but hbut fun b e => (hf b (.inr e)).2.2)).but hb2 fun b e hc => by have := (hf b (.inr e)).1; omega⟩
    · rw [List.mem_singleton.1 hx]
      exact ⟨((hs.but hbut fun b e hc => by have := hy b (.inl e); have := h.row b hc; omega)).but hb2 fun b e hc => by have := hy b (.inl e); omega, ((ht.but hbut fun b e hc => by have := hy b (.inr e); have := h.row b hc; omega)).but hb2 fun b e hc => by have := hy b (.inr e); omega⟩
  · intro x hx b e
    have hS : (wy.setCell ⟨X, 0, none⟩ va').heap.size = wy.heap.size := by simp
    rcases List.mem_append.1 hx with hx | hx
    · obtain ⟨q1, q2, q3⟩ := h.far x hx b e
      refine ⟨q1, by omega, fun e' => ?_⟩
      rcases hat with h' | h'
      · exact q3 (h'.symm.trans e')
      · rw [h'] at e'
        injection e' with e'
        omega
    · rw [List.mem_singleton.1 hx] at e
      obtain ⟨q1, q2⟩ := hy b e
      refine ⟨by omega, by omega, fun e' => ?_⟩
      rcases hat with h' | h'
      · have := h.row b (h'.symm.trans e'); omega
      · rw [h'] at e'
        injection e' with e'
        omega
  · intro b e
    have := (hown.lt b e).2
    simpa using this
  · simp
    omega

set_option maxHeartbeats 16000000 in
set_option maxRecDepth 100000 in
theorem turnTells_walk (sa sc v : Value) (l : List Venn.Atom) (c q : List Int) (n0 n1 n2 th a b d : Int) (w : World) (ha : IsAtoms w sa l) (hc : IsInts w sc c) (hq : IsInts w v q) (hk : KindsOk w) (het : EtOk w) :
    Calls Tryd.prog 3 #[.agg #[sa, sc], .agg #[.int .i64 n0, .int .i64 n1, .int .i64 n2], .agg #[.int .i64 th, .int .i64 a, .int .i64 b, .int .i64 d], v] w (Keeps (.bool true) w) := by
  obtain ⟨A, cA, rfl⟩ := ha.slice
  obtain ⟨C, cC, rfl⟩ := hc.slice
  obtain ⟨Q, cQ, rfl⟩ := hq.slice
  have HA := Lib.hid ha
  have HC := Lib.hid hc
  have HQ := Lib.hid hq
  have HK := Lib.hid hk
  have HET := Lib.hid het
  have HRO := Lib.hid (fun W v h => ref_Once v [n0, n1, n2] W h (by simp))
  have HRF := Lib.hid (fun W h1 h2 => ref_Form (.slice A l.length cA) (.slice C c.length cC) l c W h1 h2)
  have HTN := Lib.hid (fun W h1 h2 h3 => turn_Names (.slice A l.length cA) (.slice C c.length cC) l c n0 n1 n2 W h1 h2 h3)
  have HRW := Lib.hid (fun W => ref_World th a b d W)
  have HTW := Lib.hid (fun W => turn_World th a b d n0 n1 n2 W)
  have HTQ := Lib.hid (fun W h => turn_Things (.slice Q q.length cQ) q th a b d W h)
  have HEN := Lib.hid (show Venn.namesErr ⟨l, c⟩ n0 n1 n2 = if Venn.formChk ⟨l, c⟩ = 0 then (if Venn.onceV [n0, n1, n2] = true then 0 else 1) else Venn.formChk ⟨l, c⟩ from rfl)
  have HNV := Lib.hid (show Venn.namesV ⟨l, c⟩ n0 n1 n2 = if Venn.namesErr ⟨l, c⟩ n0 n1 n2 = 0 then Venn.renF n0 n1 n2 ⟨l, c⟩ else ⟨[], []⟩ from rfl)
  have HER := Lib.hid (show Venn.renWErr ⟨th, a, b, d⟩ n0 n1 n2 = if Venn.onceV [n0, n1, n2] = true then Venn.worldChk ⟨th, a, b, d⟩ else 1 from rfl)
  have HRV := Lib.hid (show Venn.renWV ⟨th, a, b, d⟩ n0 n1 n2 = if Venn.renWErr ⟨th, a, b, d⟩ n0 n1 n2 = 0 then Venn.renW n0 n1 ⟨th, a, b, d⟩ else ⟨0, 0, 0, 0⟩ from rfl)
  have HEQ := Lib.hid (show Venn.thingsErr ⟨th, a, b, d⟩ q = if Venn.worldChk ⟨th, a, b, d⟩ = 0 then (if (q.length : Int) = th then (if Venn.onceV q = true then 0 else 1) else 3) else Venn.worldChk ⟨th, a, b, d⟩ from rfl)
  have HQV := Lib.hid (show Venn.thingsV ⟨th, a, b, d⟩ q = if Venn.thingsErr ⟨th, a, b, d⟩ q = 0 then Venn.thingsW q ⟨th, a, b, d⟩ else ⟨0, 0, 0, 0⟩ from rfl)
  have HSG := Lib.hid (fun (h : Venn.formChk ⟨l, c⟩ = 0) => And.intro (form_signs h) (form_small h))
  have H3 := Lib.hid (fun (h : Venn.onceV [n0, n1, n2] = true) => Venn.once_three h)
  have HRQ := Lib.hid (fun W h (hn : q.length ≤ 1000) => ref_Once (.slice Q q.length cQ) q W h hn)
  have HWS := Lib.hid (fun (h : Venn.worldChk ⟨th, a, b, d⟩ = 0) => worldChk_sets h)
  have HQM := Lib.hid (fun (h : Venn.onceV q = true) => And.intro (Venn.once_mem h) (Venn.once_nodup h))
  generalize Venn.onceV q = BQ at HRQ HEQ HQM
  clear ha hc hq hk het
  unfold NamesPost at HTN
  generalize Venn.namesErr ⟨l, c⟩ n0 n1 n2 = EN at HTN HEN HNV
  obtain ⟨NV, hNV⟩ : ∃ NV, NV = Venn.namesV ⟨l, c⟩ n0 n1 n2 := ⟨_, rfl⟩
  rw [← hNV] at HTN HNV
  clear hNV
  obtain ⟨nl, nc⟩ := NV
  generalize Venn.formChk ⟨l, c⟩ = EF at HRF HEN HSG
  generalize Venn.onceV [n0, n1, n2] = B at HRO HEN HER H3
  generalize Venn.renWErr ⟨th, a, b, d⟩ n0 n1 n2 = ER at HTW HER HRV
  generalize Venn.renWV ⟨th, a, b, d⟩ n0 n1 n2 = RV at HTW HRV
  obtain ⟨rt, ra, rb, rd⟩ := RV
  generalize Venn.thingsErr ⟨th, a, b, d⟩ q = EQ at HTQ HEQ HQV
  generalize Venn.thingsV ⟨th, a, b, d⟩ q = QV at HTQ HQV
  obtain ⟨qt, qa, qb, qd⟩ := QV
  generalize Venn.worldChk ⟨th, a, b, d⟩ = EW at HRW HER HEQ HWS
  simp only [worldV] at HTW HTQ
  go_enter Tryd.func3, Tryd.ntmps3
  go_upto_region 1 with (fail)
  have HT : TtAt w (((w.alloc (.cells #[.slice A l.length cA, .slice C c.length cC] 25)).alloc (.cells #[.int .i64 n0, .int .i64 n1, .int .i64 n2] 26)).alloc (.cells #[.int .i64 th, .int .i64 a, .int .i64 b, .int .i64 d] 28)) (.slice A l.length cA) (.slice C c.length cC) (.int .i64 n0) (.int .i64 n1) (.int .i64 n2) (.int .i64 th) (.int .i64 a) (.int .i64 b) (.int .i64 d) :=
    ⟨(by (repeat' (first | (with_reducible exact Below.refl _ _) | (with_reducible assumption) | (with_reducible refine Below.next ?_ (by with_reducible assumption)) | (with_reducible refine Below.drew ?_) | (with_reducible refine Below.laid ?_ _) | (with_reducible refine Below.setCell ?_ ?_ _) | (with_reducible refine size_of ?_) | (with_reducible refine Nat.le_succ_of_le ?_) | go_size))), ((Blk.new _ _ _).alloc _).alloc _, (Blk.newAt (by simp) _ _).alloc _, Blk.newAt (by simp) _ _⟩
  revert HT
  generalize World.alloc _ _ = w1
  intro HT
  go_wp2_with fail
  refine (HRO.out _ _ (IsInts.of_blk3 HT.names)).mono ?_
  rintro e w2 ⟨rfl, rfl⟩
  obtain ⟨⟨f0, f1⟩, _⟩ := HT.form.cells2
  go_wp2_with fail
  refine (HRF.out _ (HA.out.keep HT.below) (HC.out.keep HT.below)).mono ?_
  rintro e w2 ⟨rfl, hb2⟩
  replace HT := HT.keep hb2
  have HTL := Lib.hid HT.world.lt
  clear f0 f1 hb2
  go_upto_region 3 with (fail)
  obtain ⟨T36, hT36⟩ : ∃ T, T = ((EF == 0) && !B) := ⟨_, rfl⟩
  have HT36 := Lib.hid hT36
  clear hT36
  go_cut [36] (fun s wx => s = .bool T36 ∧ wx = w2)
  case first =>
    as_aux_lemma =>
      cases hz : (EF == 0) <;> cases B <;> (rw [hz] at HT36; go_wp2; go_meet; case rel => exact ⟨by rw [HT36.out]; rfl, rfl⟩)
  case rest =>
  obtain ⟨rfl, rfl⟩ := hcut
  obtain ⟨w2, rfl⟩ : ∃ w2 : World, w2 = wc := ⟨_, rfl⟩
  go_upto_if 36 with (fail)
  go_cut [10] (fun s wx => s = .int .i64 EN ∧ wx = w2)
  case first =>
    as_aux_lemma =>
      by_cases hz : EF = 0
      · cases B
        · have HN := Lib.hid (show EN = 1 by rw [HEN.out, if_pos hz]; rfl)
          obtain rfl : T36 = true := by rw [HT36.out, hz]; rfl
          clear hz
          go_wp2
          go_meet
          case rel => exact ⟨by rw [HN.out], rfl⟩
        · have HN := Lib.hid (show EN = EF by rw [HEN.out, if_pos hz, hz]; rfl)
          obtain rfl : T36 = false := by rw [HT36.out, hz]; rfl
          clear hz
          go_wp2
          go_meet
          case rel => exact ⟨by rw [HN.out], rfl⟩
      · have HN := Lib.hid (show EN = EF by rw [HEN.out, if_neg hz])
        obtain rfl : T36 = false := by rw [HT36.out, show (EF == 0) = false by simpa using hz]; rfl
        clear hz
        go_wp2
        go_meet
        case rel => exact ⟨by rw [HN.out], rfl⟩
  case rest =>
  obtain ⟨rfl, rfl⟩ := hcut
  obtain ⟨w2, rfl⟩ : ∃ w2 : World, w2 = wc := ⟨_, rfl⟩
  clear HT36
  go_upto_region 6 with (fail)
  have BN := Blk.new w2 25 #[.slice none 0 0, .slice none 0 0]
  replace HT := HT.keep (Below.laid (Below.refl _ w2) (.cells #[.slice none 0 0, .slice none 0 0] 25))
  have hN := HTL.out
  revert HT BN
  generalize World.alloc _ _ = w3
  generalize w2.heap.size = X at hN ⊢
  intro BN HT
  clear HTL
  have HN0 := Lib.hid (show EN = 0 → EF = 0 ∧ B = true from fun h => by
    have e := HEN.out
    rw [h] at e
    split at e
    · split at e
      · exact ⟨by assumption, by assumption⟩
      · cases e
    · exact absurd e.symm (by assumption))
  clear HEN HRF
  go_upto_if 38 with (fail)
  obtain ⟨TZ, hTZ⟩ : ∃ TZ, TZ = (EN == 0) := ⟨_, rfl⟩
  rw [← hTZ]
  have HTZ := Lib.hid hTZ
  clear hTZ
  go_cut [12] (fun _ wx => TtAt w wx (.slice A l.length cA) (.slice C c.length cC) (.int .i64 n0) (.int .i64 n1) (.int .i64 n2) (.int .i64 th) (.int .i64 a) (.int .i64 b) (.int .i64 d) ∧ ∃ VA kA VC kC, Blk wx X 25 #[.slice VA nl.length kA, .slice VC nc.length kC] ∧ IsAtoms wx (.slice VA nl.length kA) nl ∧ IsInts wx (.slice VC nc.length kC) nc)
  case first =>
    as_aux_lemma =>
      clear HRO HTN HRW HTW HTQ HER HRV HEQ HQV H3 HWS HQM HET HQ HK
      by_cases hz : EN = 0
      · obtain ⟨hEF, hB⟩ := HN0.out hz
        obtain ⟨hsg, ⟨hl0, hl6⟩, _, hst⟩ := HSG.out hEF
        have hNV := HNV.out.trans (if_pos hz)
        simp only [Venn.renF, Venn.Form.mk.injEq] at hNV
        obtain ⟨hnl, rfl⟩ := hNV
        obtain ⟨A', cA', p, ev, hpl, hrA, hpA, hA1, hA2⟩ := atoms_open HA.out
        have hplen : p.length = l.length := by rw [← hpl]; simp
        obtain ⟨ad, rfl⟩ : ∃ ad, A = some ad := by
          obtain ⟨x, hx⟩ : ∃ x, p[0]? = some x := ⟨p[0]'(by omega), List.getElem?_eq_getElem (by omega)⟩
          obtain ⟨ad, e, _⟩ := hrA _ _ (aCells_at p 0 x hx).1
          refine ⟨ad, ?_⟩
          injection ev with q1
          rw [q1, e]
        have hLe : A' = some ad := by injection ev with q1; exact q1.symm
        have hce : cA = cA' := by injection ev
        subst hLe hce
        have HRA := Lib.hid hrA
        have HPA := Lib.hid hpA
        have HPL := Lib.hid hpl
        have HPN := Lib.hid hplen
        have HSG1 := Lib.hid hsg
        have HST := Lib.hid hst
        have HNL := Lib.hid hnl
        have HI := Lib.hid (show RnAt w (w3.setCell ⟨X, 1, none⟩ (.slice C nc.length cC)) X w3.heap.size (.slice (some ad) l.length cA) (.slice C nc.length cC) (.int .i64 n0) (.int .i64 n1) (.int .i64 n2) (.int .i64 th) (.int .i64 a) (.int .i64 b) (.int .i64 d) (.slice none 0 0) (.slice C nc.length cC) [] 0 from
          ⟨HT.but (but_one w3 X 1 _) hN, (by have := BN.set_ 1 (.slice C nc.length cC); simpa using this), World.ownsRow_nil _ _ _ _, (fun x hx => by cases hx), (fun x hx => by cases hx), (fun b e => by simp [Value.ownBlock] at e), hN, BN.lt, by simp⟩)
        have f0 := HT.form.cell 1
        have g0 := BN.cell 1
        have g1 := BN.frozen 1
        obtain rfl : TZ = true := by rw [HTZ.out, hz]; rfl
        clear HTZ hz
        clear HN0 HNV hEF hB hsg hst hnl ev hpl hrA hpA hplen
        go_wp2_with fail
        clear f0 g0 g1
        revert HI
        generalize World.setCell _ _ _ = w4
        intro HI
        go_loopw [12] (fun i wr => ∃ (k : Nat) (p1 : List AV) (va : Value) (H : Nat), k ≤ l.length ∧ i = .int .i64 k ∧ p1.map (fun x : AV => x.1) = (l.take k).map (Venn.renA n0 n1 n2) ∧
            RnAt w wr X H (.slice (some ad) l.length cA) (.slice C nc.length cC) (.int .i64 n0) (.int .i64 n1) (.int .i64 n2) (.int .i64 th) (.int .i64 a) (.int .i64 b) (.int .i64 d) va (.slice C nc.length cC) p1 k)
          (fun i _ => l.length - (intOf i).toNat)
        case atStart => exact ⟨0, [], _, _, Nat.zero_le _, rfl, rfl, HI.out⟩
        case round =>
          clear HI HT BN
          obtain ⟨k, p1, va, H0, hk, rfl, hp1, hR0⟩ := hrel
          obtain ⟨wo, rfl⟩ : ∃ wo : World, wo = wr := ⟨_, rfl⟩
          obtain ⟨VA, kA, rfl⟩ := ownsRow_slice hR0.own
          have hR : RnAt w wo X wo.heap.size (.slice (some ad) l.length cA) (.slice C nc.length cC) (.int .i64 n0) (.int .i64 n1) (.int .i64 n2) (.int .i64 th) (.int .i64 a) (.int .i64 b) (.int .i64 d) (.slice VA k kA) (.slice C nc.length cC) p1 k :=
            ⟨hR0.tt, hR0.bn, hR0.own, hR0.ok, (fun x hx b e => ⟨(hR0.far x hx b e).1, Nat.lt_of_lt_of_le (hR0.far x hx b e).2.1 hR0.size, (hR0.far x hx b e).2.2⟩), (fun b e => Nat.lt_of_lt_of_le (hR0.row b e) hR0.size), hR0.lo, Nat.lt_of_lt_of_le hR0.hi hR0.size, Nat.le_refl _⟩
          have HP1 := Lib.hid hp1
          clear hR0 hp1
          obtain ⟨⟨f0, f1⟩, _⟩ := hR.tt.form.cells2
          by_cases hlt : k < l.length
          · obtain ⟨⟨⟨aw, aS, aT, an⟩, sv, tv⟩, hx⟩ : ∃ x : AV, p[k]? = some x := ⟨p[k]'(by rw [HPN.out]; exact hlt), List.getElem?_eq_getElem _⟩
            have hlk : l[k]? = some ⟨aw, aS, aT, an⟩ := by rw [← HPL.out, List.getElem?_map, hx]; rfl
            have hmem := List.mem_of_getElem? hlk
            obtain ⟨gs0, gt0⟩ := HSG1.out _ hmem
            obtain ⟨hs12, ht12⟩ := HST.out _ hmem
            obtain ⟨hs, ht⟩ := HPA.out _ (List.mem_of_getElem? hx)
            simp only at hs ht gs0 gt0 hs12 ht12
            obtain ⟨sA, sN, rfl, hs'⟩ := hs
            obtain ⟨tA, tN, rfl, ht'⟩ := ht
            have HSS := Lib.hid (show IsInts w (.slice sA aS.length sN) aS from ⟨sA, sN, rfl, hs'⟩)
            have HTT := Lib.hid (show IsInts w (.slice tA aT.length tN) aT from ⟨tA, tN, rfl, ht'⟩)
            have HS0 := Lib.hid gs0
            have HT0 := Lib.hid gt0
            have hRD := HRA.out.keep hR.tt.below
            obtain ⟨q0, q1, q2, q3⟩ := aCells_at p k _ hx
            obtain ⟨a0, e0, d0⟩ := hRD _ _ q0
            obtain ⟨a1, e1, d1⟩ := hRD _ _ q1
            obtain ⟨a2, e2, d2⟩ := hRD _ _ q2
            obtain ⟨a3, e3, d3⟩ := hRD _ _ q3
            cases e0; cases e1; cases e2; cases e3
            rw [adr_add _ _ _ (by decide)] at d1 d2 d3
            simp only at d0 d1 d2 d3
            have HTK := Lib.hid (show (l.take (k + 1)).map (Venn.renA n0 n1 n2) = (l.take k).map (Venn.renA n0 n1 n2) ++ [⟨aw, Venn.renT n0 n1 n2 aS, Venn.renT n0 n1 n2 aT, an⟩] by rw [List.take_add_one, hlk, List.map_append]; rfl)
            have hk1 : (k : Int) < (l.length : Int) := by omega
            have hk6 : (k : Int) ≤ 6 := by omega
            have HRN := Lib.hid (Venn.renT_len n0 n1 n2 aS)
            have HRM := Lib.hid (Venn.renT_len n0 n1 n2 aT)
            clear hs' ht' hx hlk hmem gs0 gt0 q0 q1 q2 q3 hRD
            go_upto_region 12 with (fail)
            have BX := Blk.new wo 32 #[.int .i64 aw, .slice sA aS.length sN, .slice tA aT.length tN, .int .i64 an]
            have hRx := hR.keep (Below.laid (Below.refl _ wo) (.cells #[.int .i64 aw, .slice sA aS.length sN, .slice tA aT.length tN, .int .i64 an] 32))
            clear f0 f1 d0 d1 d2 d3
            have HR0 := Lib.hid hR
            clear hR
            revert BX hRx
            generalize World.alloc _ _ = w5
            obtain ⟨Y, hY⟩ : ∃ Y, Y = wo.heap.size := ⟨_, rfl⟩
            rw [← hY]
            intro BX hRx
            have x1 := BX.cell 1
            have x1f := BX.frozen 1
            have z0 := hRx.tt.names.cell 0
            have z1 := hRx.tt.names.cell 1
            have z2 := hRx.tt.names.cell 2
            have hYH : wo.heap.size ≤ Y := Nat.le_of_eq hY.symm
            clear hY
            go_wp2_with fail
            refine (ref_Renamed _ aS n0 n1 n2 _ (HSS.out.keep hRx.tt.below) (by omega) HS0.out).mono ?_
            rintro e w6 ⟨v1, rfl, hb6, hown6⟩
            rw [HRN.out] at hown6
            obtain ⟨S1, s1, rfl⟩ := ownsRow_slice hown6
            have BX6 := BX.keep hb6
            have hR6 := hRx.keep hb6
            have hlo6 := Nat.lt_of_lt_of_le BX.lt (Nat.le_refl _)
            have hsz6 := hb6.size
            have HO6 := Lib.hid hown6
            clear x1 x1f z0 z1 z2 BX hRx hb6 hown6
            have x1 := BX6.cell 1
            have x1f := BX6.frozen 1
            have BX7 : Blk (w6.setCell ⟨Y, 1, none⟩ (.slice S1 aS.length s1)) Y 32 #[.int .i64 aw, .slice S1 aS.length s1, .slice tA aT.length tN, .int .i64 an] := by
              have := BX6.set_ 1 (.slice S1 aS.length s1)
              simpa using this
            have hR7 := hR6.but (but_one w6 Y 1 (.slice S1 aS.length s1)) (Nat.le_refl Y)
            have hs7 : (w6.setCell ⟨Y, 1, none⟩ (.slice S1 aS.length s1)).heap.size = w6.heap.size := by simp
            have HI7 := Lib.hid ((IsInts.of_own HO6.out).but (but_one w6 Y 1 (.slice S1 aS.length s1)) (fun b e hc => by have := (HO6.out.lt b e).1; omega))
            have HO6L := Lib.hid (fun b e => HO6.out.lt b e)
            go_upto_region 13 with (fail)
            clear x1 x1f BX6 hR6 HO6
            revert BX7 hR7 hs7 HI7
            generalize World.setCell _ _ _ = w7
            intro BX7 hR7 hs7 HI7
            have HS7 := Lib.hid hs7
            clear hs7
            have x2 := BX7.cell 2
            have z0 := hR7.tt.names.cell 0
            have z1 := hR7.tt.names.cell 1
            have z2 := hR7.tt.names.cell 2
            go_wp2_with fail
            refine (ref_Renamed _ aT n0 n1 n2 _ (HTT.out.keep hR7.tt.below) (by omega) HT0.out).mono ?_
            rintro e w8 ⟨v2, rfl, hb8, hown8⟩
            rw [HRM.out] at hown8
            obtain ⟨T1, t1, rfl⟩ := ownsRow_slice hown8
            have BX8 := BX7.keep hb8
            have hR8 := hR7.keep hb8
            have hsz8 := hb8.size
            have HO8 := Lib.hid hown8
            have HI8 := Lib.hid (HI7.out.keep hb8)
            have hY7 := BX7.lt
            clear x2 z0 z1 z2 BX7 hR7 hb8 hown8 HI7
            have x2 := BX8.cell 2
            have x2f := BX8.frozen 2
            have BX9 : Blk (w8.setCell ⟨Y, 2, none⟩ (.slice T1 aT.length t1)) Y 32 #[.int .i64 aw, .slice S1 aS.length s1, .slice T1 aT.length t1, .int .i64 an] := by
              have := BX8.set_ 2 (.slice T1 aT.length t1)
              simpa using this
            have hR9 := hR8.but (but_one w8 Y 2 (.slice T1 aT.length t1)) (Nat.le_refl Y)
            have hs9 : (w8.setCell ⟨Y, 2, none⟩ (.slice T1 aT.length t1)).heap.size = w8.heap.size := by simp
            have HI9 := Lib.hid (HI8.out.but (but_one w8 Y 2 (.slice T1 aT.length t1)) (fun b e hc => by have := (HO6L.out b e).1; omega))
            have HJ9 := Lib.hid ((IsInts.of_own HO8.out).but (but_one w8 Y 2 (.slice T1 aT.length t1)) (fun b e hc => by have := (HO8.out.lt b e).1; omega))
            have HO8L := Lib.hid (fun b e => HO8.out.lt b e)
            go_upto_region 14 with (fail)
            clear x2 x2f BX8 hR8 HO8 HI8
            revert BX9 hR9 hs9 HI9 HJ9
            generalize World.setCell _ _ _ = w9
            intro BX9 hR9 hs9 HI9 HJ9
            have HS9 := Lib.hid hs9
            clear hs9
            obtain ⟨y0, y1, y2, y3⟩ := BX9.cells4
            have n0' := hR9.bn.cell 0
            have nl' := hR9.bn.lt
            have yl' := BX9.lt
            have hRa := hR9.keep (Below.laid (Below.refl _ w9) (.cells #[.int .i64 aw, .slice S1 aS.length s1, .slice T1 aT.length t1, .int .i64 an] 32))
            have hla := Below.laid (Below.refl _ w9) (.cells #[.int .i64 aw, .slice S1 aS.length s1, .slice T1 aT.length t1, .int .i64 an] 32)
            have HRa := Lib.hid hRa
            have HKI := Lib.hid (And.intro (HI9.out.keep hla) (HJ9.out.keep hla))
            have hsa : (w9.alloc (.cells #[.int .i64 aw, .slice S1 aS.length s1, .slice T1 aT.length t1, .int .i64 an] 32)).heap.size = w9.heap.size + 1 := by simp
            have HSA := Lib.hid hsa
            have HLO := Lib.hid (And.intro (hR9.lo) (hR9.size))
            clear hRa hla hsa
            go_wp2_with (at_builtin; refine wpList_appA_at _ rfl _ _ rfl (X + 1) (.slice VA k kA) k _ rfl HRa.out.own ⟨w9.heap.size, 0, none⟩ 1 [(⟨aw, Venn.renT n0 n1 n2 aS, Venn.renT n0 n1 n2 aT, an⟩, .slice S1 aS.length s1, .slice T1 aT.length t1)] rfl ?hrA ?hpA ?hnA ?hbA ?_)
            case hrA => exact rd_of_blk (n := 4) (Blk.new _ _ _) rfl
            case hpA =>
              intro x hx
              rw [List.mem_singleton.1 hx]
              exact HKI.out
            case hnA => (try simp); omega
            case hbA => have := HRa.out.bn.lt; omega
            intro v10 w10 hown10 hgr10 hat10
            have q68 : w6.heap.size ≤ w8.heap.size := by rw [← HS7.out]; exact hsz8
            have q5 : Y ≤ w5.heap.size := Nat.le_of_lt hlo6
            have q7 : Y ≤ w7.heap.size := Nat.le_of_lt hY7
            have HYB := Lib.hid (show ∀ b, ((.slice S1 aS.length s1 : Value).ownBlock = some b ∨ (.slice T1 aT.length t1 : Value).ownBlock = some b) → Y ≤ b ∧ b < (w9.alloc (.cells #[.int .i64 aw, .slice S1 aS.length s1, .slice T1 aT.length t1, .int .i64 an] 32)).heap.size from fun b e => by
              rw [HSA.out, HS9.out]
              rcases e with e | e
              · obtain ⟨u1, u2⟩ := HO6L.out b e
                exact ⟨Nat.le_trans q5 u1, Nat.lt_succ_of_lt (Nat.lt_of_lt_of_le u2 q68)⟩
              · obtain ⟨u1, u2⟩ := HO8L.out b e
                exact ⟨Nat.le_trans q7 u1, Nat.lt_succ_of_lt u2⟩)
            clear q68 q5 q7
            rw [← aCells_app] at hown10
            obtain ⟨VB, kB, rfl⟩ := ownsRow_slice hown10
            have hX10 : Blk w10 X 25 #[.slice VA k kA, .slice C nc.length cC] := HRa.out.bn.but (But.of_grown hgr10) (fun e => by have := (HRa.out.own.lt X e).1; omega)
            have HST10 := Lib.hid (HRa.out.step (y := (⟨aw, Venn.renT n0 n1 n2 aS, Venn.renT n0 n1 n2 aT, an⟩, .slice S1 aS.length s1, .slice T1 aT.length t1)) hgr10 hown10 (by rw [HSA.out]; exact hat10) HKI.out.1 HKI.out.2 HYB.out)
            clear hown10 hgr10 hat10 n0' y0 y1 y2 y3 nl' yl' hR9 BX9
            have m0 := hX10.cell 0
            have m0f := hX10.frozen 0
            go_wp2
            go_roundw
            case rel =>
              refine ⟨k + 1, p1 ++ [(⟨aw, Venn.renT n0 n1 n2 aS, Venn.renT n0 n1 n2 aT, an⟩, .slice S1 aS.length s1, .slice T1 aT.length t1)], .slice VB (k + 1) kB, _, ?_, ?_, ?_, HST10.out⟩
              · omega
              · go_num
              · rw [List.map_append, HP1.out, HTK.out]
                rfl
            case measure => simp [intOf]; omega
          · have hk' : k = l.length := by omega
            subst hk'
            rw [List.take_length] at HP1
            have hA := atoms_of_own hR.own hR.ok
            rw [HP1.out] at hA
            have e := HNL.out
            subst e
            have HAA := Lib.hid hA
            have HRR := Lib.hid hR
            clear hA hR
            go_wp2
            go_meet
            case rel =>
              refine ⟨HRR.out.tt, VA, kA, C, cC, ?_, ?_, HC.out.keep HRR.out.tt.below⟩
              · simp only [List.length_map]; exact HRR.out.bn
              · simp only [List.length_map]; exact HAA.out
      · obtain rfl : TZ = false := by rw [HTZ.out]; simpa using hz
        clear HTZ
        have hNV := HNV.out.trans (if_neg hz)
        simp only [Venn.Form.mk.injEq] at hNV
        obtain ⟨rfl, rfl⟩ := hNV
        clear hz HNV HN0
        go_wp2
        go_meet
        case rel => exact ⟨HT, none, 0, none, 0, BN, IsAtoms.nil _, IsIntsNil _⟩
  case rest =>
  obtain ⟨HT, VA, kA, VC, kC, BN, hNA, hNC⟩ := hcut
  obtain ⟨w4, rfl⟩ : ∃ w4 : World, w4 = wc := ⟨_, rfl⟩
  clear HN0 HNV HSG HTZ
  obtain ⟨⟨f0, f1⟩, _⟩ := HT.form.cells2
  have p0 := HT.names.cell 0
  have p1 := HT.names.cell 1
  have p2 := HT.names.cell 2
  go_wp2_with fail
  refine (HTN.out _ (HA.out.keep HT.below) (HC.out.keep HT.below) (HK.out.keep HT.below)).mono ?_
  rintro e w5 ⟨A5, kA5, C5, kC5, rfl, hb5, hA5, hC5⟩
  simp only at hA5 hC5 ⊢
  have hbx := Below.next hb5 (Below.laid (Below.refl _ w5) (.cells #[.slice A5 nl.length kA5, .slice C5 nc.length kC5] 25))
  have hbl := Below.laid (Below.refl _ w5) (.cells #[.slice A5 nl.length kA5, .slice C5 nc.length kC5] 25)
  replace HT := HT.keep hbx
  replace BN := BN.keep hbx
  have HI := Lib.hid (And.intro (And.intro (hA5.keep hbl) (hC5.keep hbl)) (And.intro (hNA.keep hbx) (hNC.keep hbx)))
  have BX := Blk.new w5 25 #[.slice A5 nl.length kA5, .slice C5 nc.length kC5]
  clear f0 f1 p0 p1 p2 hb5 hA5 hC5 hNA hNC hbx hbl
  go_upto_region 16 with (fail)
  revert HT BN HI BX
  generalize World.alloc _ _ = w6
  generalize w5.heap.size = Y
  intro HT BN HI BX
  go_wp2_with fail
  refine (vennsame_Error _ _ _ (HET.out.keep HT.below)).mono ?_
  rintro e w7 ⟨rfl, hb7⟩
  rw [beq_self_eq_true]
  replace HT := HT.keep hb7
  replace BN := BN.keep hb7
  replace BX := BX.keep hb7
  obtain ⟨⟨x0, x1⟩, _⟩ := BX.cells2
  obtain ⟨⟨y0, y1⟩, _⟩ := BN.cells2
  go_wp2_with fail
  refine (same_Form _ _ _ _ nl nc _ (HI.out.1.1.keep hb7) (HI.out.1.2.keep hb7) (HI.out.2.1.keep hb7) (HI.out.2.2.keep hb7)).mono ?_
  rintro e w8 ⟨rfl, hb8⟩
  replace HT := HT.keep hb8
  clear x0 x1 y0 y1 BX BN HI hb7 hb8 hN
  obtain ⟨v0, v1, v2, v3⟩ := HT.world.cells4
  go_wp2_with fail
  refine (HRW.out _).mono ?_
  rintro e w9 ⟨rfl, hb9⟩
  replace HT := HT.keep hb9
  clear v0 v1 v2 v3 hb9
  go_upto_if 87 with (fail)
  obtain ⟨TB, hTB⟩ : ∃ TB, TB = !B := ⟨_, rfl⟩
  rw [← hTB]
  have HTB := Lib.hid hTB
  clear hTB
  go_cut [10] (fun s wx => s = .int .i64 ER ∧ wx = w9)
  case first =>
    as_aux_lemma =>
      by_cases hB : B = true
      · have HN := Lib.hid (show ER = EW by rw [HER.out, if_pos hB])
        obtain rfl : TB = false := by rw [HTB.out, hB]; rfl
        clear hB
        go_wp2
        go_meet
        case rel => exact ⟨by rw [HN.out], rfl⟩
      · have HN := Lib.hid (show ER = 1 by rw [HER.out, if_neg hB])
        obtain rfl : TB = true := by rw [HTB.out, show B = false by simpa using hB]; rfl
        clear hB
        go_wp2
        go_meet
        case rel => exact ⟨by rw [HN.out], rfl⟩
  case rest =>
  obtain ⟨rfl, rfl⟩ := hcut
  obtain ⟨w9, rfl⟩ : ∃ w9 : World, w9 = wc := ⟨_, rfl⟩
  have HR0 := Lib.hid (show ER = 0 → EW = 0 ∧ B = true from fun h => by
    have e := HER.out
    rw [h] at e
    split at e
    · exact ⟨e.symm, by assumption⟩
    · cases e)
  clear HTB HER
  have BO := Blk.new w9 28 #[.int .i64 0, .int .i64 0, .int .i64 0, .int .i64 0]
  have hO0 := HT.world.lt
  replace HT := HT.keep (Below.laid (Below.refl _ w9) (.cells #[.int .i64 0, .int .i64 0, .int .i64 0, .int .i64 0] 28))
  go_upto_region 21 with (fail)
  revert HT BO hO0
  generalize World.alloc _ _ = wa
  generalize w9.heap.size = O
  intro BO hO0 HT
  have HO := Lib.hid hO0
  clear hO0
  go_upto_if 89 with (fail)
  obtain ⟨TZ2, hTZ⟩ : ∃ TZ, TZ = (ER == 0) := ⟨_, rfl⟩
  rw [← hTZ]
  have HTZ := Lib.hid hTZ
  clear hTZ
  go_cut [18] (fun _ wx => TtAt w wx (.slice A l.length cA) (.slice C c.length cC) (.int .i64 n0) (.int .i64 n1) (.int .i64 n2) (.int .i64 th) (.int .i64 a) (.int .i64 b) (.int .i64 d) ∧ Blk wx O 28 #[.int .i64 rt, .int .i64 ra, .int .i64 rb, .int .i64 rd])
  case first =>
    as_aux_lemma =>
      clear HRO HTN HRW HTW HTQ HEQ HQV HWS HQM HET HQ HK
      by_cases hz : ER = 0
      · obtain ⟨hEW, hB⟩ := HR0.out hz
        obtain rfl : TZ2 = true := by rw [HTZ.out, hz]; rfl
        have hRV := HRV.out.trans (if_pos hz)
        have H6 := Lib.hid (H3.out hB)
        have HRVV := Lib.hid hRV
        clear HTZ hRV hEW hB HR0 HRV H3
        have v0 := HT.world.cell 0
        have o0 := BO.cell 0
        have o0f := BO.frozen 0
        go_upto_region 23 with (fail)
        have BO1 : Blk (wa.setCell ⟨O, 0, none⟩ (.int .i64 th)) O 28 #[.int .i64 th, .int .i64 0, .int .i64 0, .int .i64 0] := by
          have := BO.set_ 0 (.int .i64 th)
          simpa using this
        have HT1 := HT.but (but_one wa O 0 (.int .i64 th)) HO.out
        clear v0 o0 o0f HT BO hz
        revert BO1 HT1
        generalize World.setCell _ _ _ = wb
        intro BO1 HT1
        have HQA : QtAt w wb (.slice A l.length cA) (.slice C c.length cC) (.int .i64 n0) (.int .i64 n1) (.int .i64 n2) (.int .i64 th) (.int .i64 a) (.int .i64 b) (.int .i64 d) O #[.int .i64 th, .int .i64 0, .int .i64 0, .int .i64 0] := ⟨HT1, BO1, HO.out⟩
        clear BO1 HT1
        go_wp2
        obtain ⟨j0, j1, j2, rfl, rfl, rfl, hj0, hj1, hj2, hSET⟩ : ∃ j0 j1 j2 : Nat, n0 = (j0 : Int) ∧ n1 = (j1 : Int) ∧ n2 = (j2 : Int) ∧ j0 < 3 ∧ j1 < 3 ∧ j2 < 3 ∧ (((#[.int .i64 th, .int .i64 0, .int .i64 0, .int .i64 0] : Array Value).setIfInBounds (1 + j0) (.int .i64 a)).setIfInBounds (1 + j1) (.int .i64 b)).setIfInBounds (1 + j2) (.int .i64 d) = #[.int .i64 rt, .int .i64 ra, .int .i64 rb, .int .i64 rd] := six_set H6.out HRVV.out
        have HSET := Lib.hid hSET
        clear HRVV H6 hSET
        refine wp_loop_rounds 4 ?_
        have q0 : (0 : Int) ≤ (j0 : Int) := by omega
        have q1 : (j0 : Int) < 3 := by omega
        have z0 := HQA.tt.names.cell 0
        have z1 := HQA.tt.world.cell 1
        have z2 := HQA.out.frozen (1 + j0)
        obtain ⟨zv, z3⟩ := blk_some HQA.out (i := 1 + j0) (by first | (simp only [Array.size_setIfInBounds]; show _ < 4; omega) | (show _ < 4; omega))
        rw [rounds_succ]
        go_wp2
        go_still_tail 9, (by kernel_rfl)
        go_wp2
        have HQB := HQA.put (1 + j0) (.int .i64 a)
        clear z0 z1 z2 z3 HQA q0 q1
        revert HQB
        generalize World.drew _ = wb0
        intro HQA
        have q0 : (0 : Int) ≤ (j1 : Int) := by omega
        have q1 : (j1 : Int) < 3 := by omega
        have z0 := HQA.tt.names.cell 1
        have z1 := HQA.tt.world.cell 2
        have z2 := HQA.out.frozen (1 + j1)
        obtain ⟨zv, z3⟩ := blk_some HQA.out (i := 1 + j1) (by first | (simp only [Array.size_setIfInBounds]; show _ < 4; omega) | (show _ < 4; omega))
        rw [rounds_succ]
        go_wp2
        go_still_tail 9, (by kernel_rfl)
        go_wp2
        have HQB := HQA.put (1 + j1) (.int .i64 b)
        clear z0 z1 z2 z3 HQA q0 q1
        revert HQB
        generalize World.drew _ = wb1
        intro HQA
        have q0 : (0 : Int) ≤ (j2 : Int) := by omega
        have q1 : (j2 : Int) < 3 := by omega
        have z0 := HQA.tt.names.cell 2
        have z1 := HQA.tt.world.cell 3
        have z2 := HQA.out.frozen (1 + j2)
        obtain ⟨zv, z3⟩ := blk_some HQA.out (i := 1 + j2) (by first | (simp only [Array.size_setIfInBounds]; show _ < 4; omega) | (show _ < 4; omega))
        rw [rounds_succ]
        go_wp2
        go_still_tail 9, (by kernel_rfl)
        go_wp2
        have HQB := HQA.put (1 + j2) (.int .i64 d)
        clear z0 z1 z2 z3 HQA q0 q1
        revert HQB
        generalize World.drew _ = wb2
        intro HQA
        rw [HSET.out] at HQA
        rw [rounds_succ]
        go_wp2
        go_meet
        case rel => exact ⟨HQA.tt, HQA.out⟩
      · obtain rfl : TZ2 = false := by rw [HTZ.out]; simpa using hz
        have hRV := HRV.out.trans (if_neg hz)
        simp only [Venn.World.mk.injEq] at hRV
        obtain ⟨rfl, rfl, rfl, rfl⟩ := hRV
        clear hz HTZ HRV HR0 H3
        go_wp2
        go_meet
        case rel => exact ⟨HT, BO⟩
  case rest =>
  obtain ⟨HT, BO⟩ := hcut
  obtain ⟨w4, rfl⟩ : ∃ w4 : World, w4 = wc := ⟨_, rfl⟩
  clear HR0 HRV H3 HTZ
  obtain ⟨v0, v1, v2, v3⟩ := HT.world.cells4
  have p0 := HT.names.cell 0
  have p1 := HT.names.cell 1
  have p2 := HT.names.cell 2
  go_wp2_with fail
  refine (HTW.out _).mono ?_
  rintro e w5 ⟨rfl, hb5⟩
  have hbx := Below.next hb5 (Below.laid (Below.refl _ w5) (.cells #[.int .i64 rt, .int .i64 ra, .int .i64 rb, .int .i64 rd] 28))
  have BX := Blk.new w5 28 #[.int .i64 rt, .int .i64 ra, .int .i64 rb, .int .i64 rd]
  replace HT := HT.keep hbx
  replace BO := BO.keep hbx
  clear v0 v1 v2 v3 p0 p1 p2 hb5 hbx HTW
  go_upto_region 28 with (fail)
  revert HT BO BX
  generalize World.alloc _ _ = w6
  generalize w5.heap.size = Y
  intro BX HT BO
  go_wp2_with fail
  refine (vennsame_Error _ _ _ (HET.out.keep HT.below)).mono ?_
  rintro e w7 ⟨rfl, hb7⟩
  rw [beq_self_eq_true]
  replace HT := HT.keep hb7
  replace BO := BO.keep hb7
  replace BX := BX.keep hb7
  obtain ⟨x0, x1, x2, x3⟩ := BX.cells4
  obtain ⟨y0, y1, y2, y3⟩ := BO.cells4
  have hq3 := eql_three 9997 ra rb rd w7
  go_upto_region 29 with (fail)
  clear x0 x1 x2 x3 y0 y1 y2 y3 hq3 BX hb7
  obtain ⟨v0, v1, v2, v3⟩ := HT.world.cells4
  go_wp2_with fail
  refine (HRW.out _).mono ?_
  rintro e w8 ⟨rfl, hb8⟩
  replace HT := HT.keep hb8
  replace BO := BO.keep hb8
  clear v0 v1 v2 v3 hb8 HRW
  go_upto_region 30 with (fail)
  obtain ⟨T130, hT⟩ : ∃ T, T = ((EW == 0) && ((q.length : Int) != th)) := ⟨_, rfl⟩
  have HTA := Lib.hid hT
  clear hT
  go_cut [130] (fun s wx => s = .bool T130 ∧ wx = w8)
  case first =>
    as_aux_lemma =>
      have v0 := HT.world.cell 0
      obtain ⟨TL, hTL⟩ : ∃ T, T = ((q.length : Int) != th) := ⟨_, rfl⟩
      have HTL := Lib.hid hTL
      cases hz : (EW == 0)
      · rw [hz] at HTA
        clear hTL HTL
        go_wp2
        go_meet
        case rel => exact ⟨by rw [HTA.out]; rfl, rfl⟩
      · rw [hz, ← hTL] at HTA
        go_wp2
        rw [← HTL.out]
        go_wp2
        go_meet
        case rel => exact ⟨by rw [HTA.out]; rfl, rfl⟩
  case rest =>
  obtain ⟨rfl, rfl⟩ := hcut
  obtain ⟨w8, rfl⟩ : ∃ w8 : World, w8 = wc := ⟨_, rfl⟩
  go_upto_if 130 with (fail)
  obtain ⟨E3, hE3⟩ : ∃ E, E = (if T130 = true then 3 else EW) := ⟨_, rfl⟩
  have HE3 := Lib.hid hE3
  clear hE3
  go_cut [10] (fun s wx => s = .int .i64 E3 ∧ wx = w8)
  case first =>
    as_aux_lemma =>
      cases hT : T130
      · have HN := Lib.hid (show E3 = EW by rw [HE3.out, hT]; rfl)
        go_wp2
        go_meet
        case rel => exact ⟨by rw [HN.out], rfl⟩
      · have HN := Lib.hid (show E3 = 3 by rw [HE3.out, hT]; rfl)
        go_wp2
        go_meet
        case rel => exact ⟨by rw [HN.out], rfl⟩
  case rest =>
  obtain ⟨rfl, rfl⟩ := hcut
  obtain ⟨w8, rfl⟩ : ∃ w8 : World, w8 = wc := ⟨_, rfl⟩
  have H30 := Lib.hid (show E3 = 0 → EW = 0 ∧ (q.length : Int) = th from fun h => by
    have e := HE3.out
    rw [h, HTA.out] at e
    by_cases h1 : EW = 0
    · refine ⟨h1, ?_⟩
      by_cases h2 : (q.length : Int) = th
      · exact h2
      · simp [h1, h2] at e
    · simp [h1] at e
      exact absurd e.symm h1)
  have HEQ3 := Lib.hid (show EQ = if E3 = 0 then (if BQ = true then 0 else 1) else E3 by
    rw [HEQ.out, HE3.out, HTA.out]
    by_cases h1 : EW = 0
    · by_cases h2 : (q.length : Int) = th
      · simp [h1, h2]
      · simp [h1, h2]
    · simp [h1])
  clear HE3 HTA HEQ
  go_upto_if 132 with (fail)
  obtain ⟨TZ3, hTZ⟩ : ∃ TZ, TZ = (E3 == 0) := ⟨_, rfl⟩
  rw [← hTZ]
  have HTZ := Lib.hid hTZ
  clear hTZ
  go_cut [10, 21] (fun s _ wx => s = .int .i64 EQ ∧ TtAt w wx (.slice A l.length cA) (.slice C c.length cC) (.int .i64 n0) (.int .i64 n1) (.int .i64 n2) (.int .i64 th) (.int .i64 a) (.int .i64 b) (.int .i64 d) ∧ Blk wx O 28 #[.int .i64 rt, .int .i64 ra, .int .i64 rb, .int .i64 rd])
  case first =>
    as_aux_lemma =>
      by_cases hz : E3 = 0
      · obtain ⟨h1, h2⟩ := H30.out hz
        have hq6 : q.length ≤ 1000 := by
          have := (HWS.out h1).1
          omega
        have HQ6 := Lib.hid hq6
        obtain rfl : TZ3 = true := by rw [HTZ.out, hz]; rfl
        have HE := Lib.hid (show EQ = if BQ = true then 0 else 1 by rw [HEQ3.out, if_pos hz])
        have HZ3 := Lib.hid hz
        clear h1 h2 hq6 hz HTZ HEQ3
        go_wp2_with fail
        refine (HRQ.out _ (HQ.out.keep HT.below) HQ6.out).mono ?_
        rintro e w9 ⟨rfl, rfl⟩
        by_cases hB : BQ = true
        · have HN := Lib.hid (show EQ = E3 by rw [HE.out, if_pos hB, HZ3.out])
          rw [hB]
          clear hB
          go_wp2
          go_meet
          case rel => exact ⟨by rw [HN.out], HT, BO⟩
        · have HN := Lib.hid (show EQ = 1 by rw [HE.out, if_neg hB])
          rw [show BQ = false by simpa using hB]
          clear hB
          go_wp2
          go_meet
          case rel => exact ⟨by rw [HN.out], HT, BO⟩
      · obtain rfl : TZ3 = false := by rw [HTZ.out]; simpa using hz
        have HN := Lib.hid (show EQ = E3 by rw [HEQ3.out, if_neg hz])
        clear hz HTZ HEQ3
        go_wp2
        go_meet
        case rel => exact ⟨by rw [HN.out], HT, BO⟩
  case rest =>
  obtain ⟨rfl, HT, BO⟩ := hcut
  obtain ⟨w9, rfl⟩ : ∃ w9 : World, w9 = wc := ⟨_, rfl⟩
  have HQ0 := Lib.hid (show EQ = 0 → EW = 0 ∧ (q.length : Int) = th ∧ BQ = true from fun h => by
    have e := HEQ3.out
    rw [h] at e
    split at e
    · obtain ⟨h1, h2⟩ := H30.out (by assumption)
      split at e
      · exact ⟨h1, h2, by assumption⟩
      · cases e
    · exact absurd e.symm (by assumption))
  clear HEQ3 H30 HTZ HRQ HK HRO
  go_upto_region 36 with (fail)
  have HOL := Lib.hid (show w.heap.size + 1 + 1 < O from HO.out)
  have b0 := BO.frozen 0
  have b1 := BO.frozen 1
  have b2 := BO.frozen 2
  have b3 := BO.frozen 3
  obtain ⟨c0, c1, c2, c3⟩ := BO.cells4
  have BZ := BO.set4 (.int .i64 0) (.int .i64 0) (.int .i64 0) (.int .i64 0)
  have HTZ : TtAt w ((((w9.setCell ⟨O, 0, none⟩ (.int .i64 0)).setCell ⟨O, 1, none⟩ (.int .i64 0)).setCell ⟨O, 2, none⟩ (.int .i64 0)).setCell ⟨O, 3, none⟩ (.int .i64 0)) (.slice A l.length cA) (.slice C c.length cC) (.int .i64 n0) (.int .i64 n1) (.int .i64 n2) (.int .i64 th) (.int .i64 a) (.int .i64 b) (.int .i64 d) :=
    (((HT.but (but_one _ O 0 _) HO.out).but (but_one _ O 1 _) HO.out).but (but_one _ O 2 _) HO.out).but (but_one _ O 3 _) HO.out
  go_upto_region 37 with (fail)
  clear b0 b1 b2 b3 c0 c1 c2 c3 BO HT
  revert BZ HTZ
  generalize World.setCell _ _ _ = wa
  intro BO HT
  go_upto_if 139 with (fail)
  obtain ⟨TZ4, hTZ⟩ : ∃ TZ, TZ = (EQ == 0) := ⟨_, rfl⟩
  rw [← hTZ]
  have HTZ := Lib.hid hTZ
  clear hTZ
  go_cut [22, 23, 24] (fun _ _ _ wx => TtAt w wx (.slice A l.length cA) (.slice C c.length cC) (.int .i64 n0) (.int .i64 n1) (.int .i64 n2) (.int .i64 th) (.int .i64 a) (.int .i64 b) (.int .i64 d) ∧ Blk wx O 28 #[.int .i64 qt, .int .i64 qa, .int .i64 qb, .int .i64 qd])
  case first =>
    as_aux_lemma =>
      clear HTQ HET
      by_cases hz : EQ = 0
      · obtain ⟨hEW, hlen, hB⟩ := HQ0.out hz
        have HQVV := Lib.hid (HQV.out.trans (if_pos hz))
        obtain ⟨⟨t0, t6⟩, hsa, hsb, hsd⟩ := HWS.out hEW
        have HQM2 := Lib.hid (HQM.out hB)
        obtain rfl : TZ4 = true := by rw [HTZ.out, hz]; rfl
        clear HTZ HQ0 HQV HWS HQM hEW hB hz
        have v0 := HT.world.cell 0
        have o0 := BO.cell 0
        have o0f := BO.frozen 0
        go_upto_region 39 with (fail)
        have BO1 : Blk (wa.setCell ⟨O, 0, none⟩ (.int .i64 th)) O 28 #[.int .i64 th, .int .i64 0, .int .i64 0, .int .i64 0] := by
          have := BO.set_ 0 (.int .i64 th)
          simpa using this
        have HT1 := HT.but (but_one wa O 0 (.int .i64 th)) HO.out
        clear v0 o0 o0f HT BO
        revert BO1 HT1
        generalize World.setCell _ _ _ = wb
        intro BO1 HT1
        have HQA : QtAt w wb (.slice A l.length cA) (.slice C c.length cC) (.int .i64 n0) (.int .i64 n1) (.int .i64 n2) (.int .i64 th) (.int .i64 a) (.int .i64 b) (.int .i64 d) O #[.int .i64 th, .int .i64 0, .int .i64 0, .int .i64 0] := ⟨HT1, BO1, HO.out⟩
        clear BO1 HT1
        subst hlen
        have hq6 : q.length ≤ 6 := by omega
        have HQ5 := Lib.hid (fun x (hx : x ∈ q) => (show 0 ≤ x ∧ x ≤ 5 by have := HQM2.out.1 x hx; omega))
        have HAA := Lib.hid hsa
        have HAB := Lib.hid hsb
        have HAD := Lib.hid hsd
        clear t0 t6 hsa hsb hsd
        go_wp2
        go_loopw [22] (fun i wr => ∃ (k : Nat) (ac bc dc : Int), k ≤ q.length ∧ i = .int .i64 k ∧ Venn.ThInv a q k ac ∧ Venn.ThInv b q k bc ∧ Venn.ThInv d q k dc ∧ QtAt w wr (.slice A l.length cA) (.slice C c.length cC) (.int .i64 n0) (.int .i64 n1) (.int .i64 n2) (.int .i64 q.length) (.int .i64 a) (.int .i64 b) (.int .i64 d) O #[.int .i64 q.length, .int .i64 ac, .int .i64 bc, .int .i64 dc])
          (fun i _ => q.length - (intOf i).toNat)
        case atStart => exact ⟨0, 0, 0, 0, Nat.zero_le _, rfl, Venn.ThInv.start _ _, Venn.ThInv.start _ _, Venn.ThInv.start _ _, HQA⟩
        case round =>
          clear HQA
          obtain ⟨k, ac, bc, dc, hk, rfl, hia, hib, hid, HQA⟩ := hrel
          obtain ⟨wo, rfl⟩ : ∃ wo : World, wo = wr := ⟨_, rfl⟩
          have HIA := Lib.hid hia
          have HIB := Lib.hid hib
          have HID := Lib.hid hid
          clear hia hib hid
          by_cases hlt : k < q.length
          · obtain ⟨x, hx⟩ : ∃ x, q[k]? = some x := ⟨q[k], List.getElem?_eq_getElem hlt⟩
            obtain ⟨y0, y1⟩ := HQ5.out x (List.mem_of_getElem? hx)
            obtain ⟨T, rfl⟩ := Int.eq_ofNat_of_zero_le y0
            have ht5 : T ≤ 5 := by omega
            have hnn : ∀ x ∈ q, 0 ≤ x := fun x h => (HQ5.out x h).1
            have HSA := Lib.hid (HIA.out.step HQM2.out.2 hnn hx ht5)
            have HSB := Lib.hid (HIB.out.step HQM2.out.2 hnn hx ht5)
            have HSD := Lib.hid (HID.out.step HQM2.out.2 hnn hx ht5)
            have HEA := Lib.hid (show Venn.thStep a k T ac = if Venn.bit a k = true then ac + ((2 ^ T : Nat) : Int) else ac from rfl)
            have HEB := Lib.hid (show Venn.thStep b k T bc = if Venn.bit b k = true then bc + ((2 ^ T : Nat) : Int) else bc from rfl)
            have HED := Lib.hid (show Venn.thStep d k T dc = if Venn.bit d k = true then dc + ((2 ^ T : Nat) : Int) else dc from rfl)
            have HX := Lib.hid hx
            have hP : 2 ^ T ≤ 2 ^ 6 := Nat.pow_le_pow_right (by omega) (by omega)
            have HPW := Lib.hid (fun W => ref_Power (T : Int) W (by omega))
            rw [Int.toNat_natCast] at HPW
            have hk5 : (0 : Int) ≤ (k : Int) ∧ (k : Int) ≤ 5 := by omega
            have HHA := Lib.hid (fun W => ref_Has a (k : Int) W HAA.out hk5)
            have HHB := Lib.hid (fun W => ref_Has b (k : Int) W HAB.out hk5)
            have HHD := Lib.hid (fun W => ref_Has d (k : Int) W HAD.out hk5)
            rw [Int.toNat_natCast] at HHA HHB HHD
            generalize Venn.thStep a k T ac = ac' at HSA HEA
            generalize Venn.thStep b k T bc = bc' at HSB HEB
            generalize Venn.thStep d k T dc = dc' at HSD HED
            generalize Venn.bit a k = BA at HHA HEA
            generalize Venn.bit b k = BB at HHB HEB
            generalize Venn.bit d k = BD at HHD HED
            generalize 2 ^ T = P2 at HPW HEA HEB HED hP
            have a1 := HIA.out.lo
            have a2 := HIA.out.hi
            have b1 := HIB.out.lo
            have b2 := HIB.out.hi
            have d1 := HID.out.lo
            have d2 := HID.out.hi
            have hwa : IntKind.i64.wrap (ac + (P2 : Int)) = ac + (P2 : Int) := IntWalk.i64_in _ (by omega)
            have hwb : IntKind.i64.wrap (bc + (P2 : Int)) = bc + (P2 : Int) := IntWalk.i64_in _ (by omega)
            have hwd : IntKind.i64.wrap (dc + (P2 : Int)) = dc + (P2 : Int) := IntWalk.i64_in _ (by omega)
            have hk1 : (k : Int) < (q.length : Int) := by omega
            have hk0 : (0 : Int) ≤ (k : Int) := hk5.1
            have t0 := HQA.tt.world.cell 0
            clear y0 y1 hnn hx hk5 HIA HIB HID a1 a2 b1 b2 d1 d2 hP
            go_wp2
            clear t0
            go_loopw [23] (fun kk wr => ∃ j : Nat, j ≤ 3 ∧ kk = .int .i64 j ∧ QtAt w wr (.slice A l.length cA) (.slice C c.length cC) (.int .i64 n0) (.int .i64 n1) (.int .i64 n2) (.int .i64 q.length) (.int .i64 a) (.int .i64 b) (.int .i64 d) O (namesAt q.length ac bc dc ac' bc' dc' j)) (fun kk _ => 3 - (intOf kk).toNat)
            case atStart => exact ⟨0, by omega, rfl, HQA⟩
            case round =>
              clear HQA
              obtain ⟨j, hj, rfl, hB⟩ := hrel
              obtain ⟨wk, rfl⟩ : ∃ wk : World, wk = wr := ⟨_, rfl⟩
              rcases (by omega : j = 0 ∨ j = 1 ∨ j = 2 ∨ j = 3) with rfl | rfl | rfl | rfl
              · have B : QtAt w wk (.slice A l.length cA) (.slice C c.length cC) (.int .i64 n0) (.int .i64 n1) (.int .i64 n2) (.int .i64 q.length) (.int .i64 a) (.int .i64 b) (.int .i64 d) O #[.int .i64 q.length, .int .i64 ac, .int .i64 bc, .int .i64 dc] := hB
                clear hB
                have w0 := B.tt.world.cell 1
                have o0 := B.out.cell 1
                have f0 := B.out.frozen 1
                obtain ⟨adq, eq, hcq⟩ := (ints_rd (HQ.out.keep B.tt.below)) k (.int .i64 T) (by rw [List.getElem?_map, HX.out]; rfl)
                subst eq
                cases hbt : BA
                · have HB := Lib.hid hbt
                  have HE := Lib.hid (show ac' = ac by rw [HEA.out, hbt]; rfl)
                  clear hbt
                  go_wp2_with (go_at_call 14; refine (HHA.out _).mono ?_; rintro e w' ⟨rfl, rfl⟩; rw [HB.out])
                  go_roundw
                  case rel => exact ⟨1, by omega, by go_num, by show QtAt w _ (.slice A l.length cA) (.slice C c.length cC) (.int .i64 n0) (.int .i64 n1) (.int .i64 n2) (.int .i64 q.length) (.int .i64 a) (.int .i64 b) (.int .i64 d) O #[.int .i64 q.length, .int .i64 ac', .int .i64 bc, .int .i64 dc]; rw [HE.out]; exact B⟩
                  case measure => simp [intOf]
                · have HB := Lib.hid hbt
                  have HE := Lib.hid (show ac' = ac + (P2 : Int) by rw [HEA.out, hbt]; rfl)
                  clear hbt
                  go_wp2_with (go_at_call 14; refine (HHA.out _).mono ?_; rintro e w' ⟨rfl, rfl⟩; rw [HB.out])
                  go_still_tail 13, (by kernel_rfl)
                  first
                    | still_call (Pure.still (HPW.out _))
                    | refine ⟨_, Pure.still (HPW.out _), ?_⟩
                  repeat still_step
                  refine wpStill_nil ?_
                  go_wp2
                  have B2 := B.drew.store 1 (.int .i64 (ac + (P2 : Int)))
                  simp only [List.setIfInBounds_toArray, List.set_cons_zero, List.set_cons_succ] at B2
                  go_roundw
                  case rel => exact ⟨1, by omega, by go_num, by show QtAt w _ (.slice A l.length cA) (.slice C c.length cC) (.int .i64 n0) (.int .i64 n1) (.int .i64 n2) (.int .i64 q.length) (.int .i64 a) (.int .i64 b) (.int .i64 d) O #[.int .i64 q.length, .int .i64 ac', .int .i64 bc, .int .i64 dc]; rw [HE.out]; exact B2⟩
                  case measure => simp [intOf]
              · have B : QtAt w wk (.slice A l.length cA) (.slice C c.length cC) (.int .i64 n0) (.int .i64 n1) (.int .i64 n2) (.int .i64 q.length) (.int .i64 a) (.int .i64 b) (.int .i64 d) O #[.int .i64 q.length, .int .i64 ac', .int .i64 bc, .int .i64 dc] := hB
                clear hB
                have w0 := B.tt.world.cell 2
                have o0 := B.out.cell 2
                have f0 := B.out.frozen 2
                obtain ⟨adq, eq, hcq⟩ := (ints_rd (HQ.out.keep B.tt.below)) k (.int .i64 T) (by rw [List.getElem?_map, HX.out]; rfl)
                subst eq
                cases hbt : BB
                · have HB := Lib.hid hbt
                  have HE := Lib.hid (show bc' = bc by rw [HEB.out, hbt]; rfl)
                  clear hbt
                  go_wp2_with (go_at_call 14; refine (HHB.out _).mono ?_; rintro e w' ⟨rfl, rfl⟩; rw [HB.out])
                  go_roundw
                  case rel => exact ⟨2, by omega, by go_num, by show QtAt w _ (.slice A l.length cA) (.slice C c.length cC) (.int .i64 n0) (.int .i64 n1) (.int .i64 n2) (.int .i64 q.length) (.int .i64 a) (.int .i64 b) (.int .i64 d) O #[.int .i64 q.length, .int .i64 ac', .int .i64 bc', .int .i64 dc]; rw [HE.out]; exact B⟩
                  case measure => simp [intOf]
                · have HB := Lib.hid hbt
                  have HE := Lib.hid (show bc' = bc + (P2 : Int) by rw [HEB.out, hbt]; rfl)
                  clear hbt
                  go_wp2_with (go_at_call 14; refine (HHB.out _).mono ?_; rintro e w' ⟨rfl, rfl⟩; rw [HB.out])
                  go_still_tail 13, (by kernel_rfl)
                  first
                    | still_call (Pure.still (HPW.out _))
                    | refine ⟨_, Pure.still (HPW.out _), ?_⟩
                  repeat still_step
                  refine wpStill_nil ?_
                  go_wp2
                  have B2 := B.drew.store 2 (.int .i64 (bc + (P2 : Int)))
                  simp only [List.setIfInBounds_toArray, List.set_cons_zero, List.set_cons_succ] at B2
                  go_roundw
                  case rel => exact ⟨2, by omega, by go_num, by show QtAt w _ (.slice A l.length cA) (.slice C c.length cC) (.int .i64 n0) (.int .i64 n1) (.int .i64 n2) (.int .i64 q.length) (.int .i64 a) (.int .i64 b) (.int .i64 d) O #[.int .i64 q.length, .int .i64 ac', .int .i64 bc', .int .i64 dc]; rw [HE.out]; exact B2⟩
                  case measure => simp [intOf]
              · have B : QtAt w wk (.slice A l.length cA) (.slice C c.length cC) (.int .i64 n0) (.int .i64 n1) (.int .i64 n2) (.int .i64 q.length) (.int .i64 a) (.int .i64 b) (.int .i64 d) O #[.int .i64 q.length, .int .i64 ac', .int .i64 bc', .int .i64 dc] := hB
                clear hB
                have w0 := B.tt.world.cell 3
                have o0 := B.out.cell 3
                have f0 := B.out.frozen 3
                obtain ⟨adq, eq, hcq⟩ := (ints_rd (HQ.out.keep B.tt.below)) k (.int .i64 T) (by rw [List.getElem?_map, HX.out]; rfl)
                subst eq
                cases hbt : BD
                · have HB := Lib.hid hbt
                  have HE := Lib.hid (show dc' = dc by rw [HED.out, hbt]; rfl)
                  clear hbt
                  go_wp2_with (go_at_call 14; refine (HHD.out _).mono ?_; rintro e w' ⟨rfl, rfl⟩; rw [HB.out])
                  go_roundw
                  case rel => exact ⟨3, by omega, by go_num, by show QtAt w _ (.slice A l.length cA) (.slice C c.length cC) (.int .i64 n0) (.int .i64 n1) (.int .i64 n2) (.int .i64 q.length) (.int .i64 a) (.int .i64 b) (.int .i64 d) O #[.int .i64 q.length, .int .i64 ac', .int .i64 bc', .int .i64 dc']; rw [HE.out]; exact B⟩
                  case measure => simp [intOf]
                · have HB := Lib.hid hbt
                  have HE := Lib.hid (show dc' = dc + (P2 : Int) by rw [HED.out, hbt]; rfl)
                  clear hbt
                  go_wp2_with (go_at_call 14; refine (HHD.out _).mono ?_; rintro e w' ⟨rfl, rfl⟩; rw [HB.out])
                  go_still_tail 13, (by kernel_rfl)
                  first
                    | still_call (Pure.still (HPW.out _))
                    | refine ⟨_, Pure.still (HPW.out _), ?_⟩
                  repeat still_step
                  refine wpStill_nil ?_
                  go_wp2
                  have B2 := B.drew.store 3 (.int .i64 (dc + (P2 : Int)))
                  simp only [List.setIfInBounds_toArray, List.set_cons_zero, List.set_cons_succ] at B2
                  go_roundw
                  case rel => exact ⟨3, by omega, by go_num, by show QtAt w _ (.slice A l.length cA) (.slice C c.length cC) (.int .i64 n0) (.int .i64 n1) (.int .i64 n2) (.int .i64 q.length) (.int .i64 a) (.int .i64 b) (.int .i64 d) O #[.int .i64 q.length, .int .i64 ac', .int .i64 bc', .int .i64 dc']; rw [HE.out]; exact B2⟩
                  case measure => simp [intOf]
              · have B : QtAt w wk (.slice A l.length cA) (.slice C c.length cC) (.int .i64 n0) (.int .i64 n1) (.int .i64 n2) (.int .i64 q.length) (.int .i64 a) (.int .i64 b) (.int .i64 d) O #[.int .i64 q.length, .int .i64 ac', .int .i64 bc', .int .i64 dc'] := hB
                clear hB
                go_wp2
                go_roundw
                case rel => exact ⟨k + 1, ac', bc', dc', by omega, by go_num, HSA.out, HSB.out, HSD.out, B⟩
                case measure => simp [intOf]; omega
          · have hk' : k = q.length := by omega
            subst hk'
            have e1 := HIA.out.done
            have e2 := HIB.out.done
            have e3 := HID.out.done
            have HE := Lib.hid (show (⟨qt, qa, qb, qd⟩ : Venn.World) = ⟨(q.length : Int), ac, bc, dc⟩ by rw [HQVV.out, e1, e2, e3]; rfl)
            have t0 := HQA.tt.world.cell 0
            have HQ9 := Lib.hid HQA
            clear e1 e2 e3 HIA HIB HID hlt hk HQA
            go_wp2
            go_meet
            case rel =>
              have e := HE.out
              injection e with e1 e2 e3 e4
              rw [e1, e2, e3, e4]
              exact ⟨HQ9.out.tt, HQ9.out.out⟩
      · obtain rfl : TZ4 = false := by rw [HTZ.out]; simpa using hz
        have hQV := HQV.out.trans (if_neg hz)
        simp only [Venn.World.mk.injEq] at hQV
        obtain ⟨rfl, rfl, rfl, rfl⟩ := hQV
        clear hz HTZ HQV HQ0
        go_wp2
        go_meet
        case rel => exact ⟨HT, BO⟩
  case rest =>
  obtain ⟨HT, BO⟩ := hcut
  obtain ⟨w4, rfl⟩ : ∃ w4 : World, w4 = wc := ⟨_, rfl⟩
  clear HTZ HQ0 HQV HWS HQM
  obtain ⟨v0, v1, v2, v3⟩ := HT.world.cells4
  go_wp2_with fail
  refine (HTQ.out _ (HQ.out.keep HT.below)).mono ?_
  rintro e w5 ⟨rfl, hb5⟩
  have hbx := Below.next hb5 (Below.laid (Below.refl _ w5) (.cells #[.int .i64 qt, .int .i64 qa, .int .i64 qb, .int .i64 qd] 28))
  have BX := Blk.new w5 28 #[.int .i64 qt, .int .i64 qa, .int .i64 qb, .int .i64 qd]
  replace HT := HT.keep hbx
  replace BO := BO.keep hbx
  clear v0 v1 v2 v3 hb5 hbx HTQ
  go_upto_region 49 with (fail)
  revert HT BO BX
  generalize World.alloc _ _ = w6
  generalize w5.heap.size = Y
  intro BX HT BO
  go_wp2_with fail
  refine (vennsame_Error _ _ _ (HET.out.keep HT.below)).mono ?_
  rintro e w7 ⟨rfl, hb7⟩
  rw [beq_self_eq_true]
  replace HT := HT.keep hb7
  replace BO := BO.keep hb7
  replace BX := BX.keep hb7
  obtain ⟨x0, x1, x2, x3⟩ := BX.cells4
  obtain ⟨y0, y1, y2, y3⟩ := BO.cells4
  have hq3 := eql_three 9997 qa qb qd w7
  go_wp2
  go_ret
  exact ⟨rfl, HT.below⟩
end Go.Proofs.YtlpfbdejiifbpaaDoor

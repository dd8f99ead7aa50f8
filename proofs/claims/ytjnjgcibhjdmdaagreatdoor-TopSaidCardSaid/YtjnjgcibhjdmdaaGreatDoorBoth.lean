/-
  THE WALK of form.Both.
-/
import Derived.Test.YtjnjgcibhjdmdaaGreatDoorNegate
import Derived.Deep.DeepCutAuto
import Derived.Deep.RegionHeld3
namespace Go.Proofs.YtjnjgcibhjdmdaaGreatDoor
open Go.RowKit

def bothV (f g : Venn.Form) : Venn.Form := if Venn.bothChk f g = 0 then Venn.bothF f g else noForm

/-- Behind the two copies: the boxes, and what is the call's own. -/
structure BothAt (w wx w4 w5 : World) (S : Nat) (l m : List Venn.Atom) (c d : List Int) (p q : List AV) (ga ka gc kc gb kb gd kd : Nat) : Prop where
  below : Below w.heap.size w wx
  fBox : Blk wx w.heap.size 38 #[.slice (some ⟨ga, 0, none⟩) l.length ka, .slice (some ⟨gc, 0, none⟩) c.length kc]
  gBox : Blk wx (w.heap.size + 1) 38 #[.slice (some ⟨gb, 0, none⟩) m.length kb, .slice (some ⟨gd, 0, none⟩) d.length kd]
  rBox : Blk wx (w.heap.size + 2) 38 #[.slice none 0 0, .slice none 0 0]
  hS : w.heap.size + 2 < S
  pl : p.map (fun x : AV => x.1) = l
  ql : q.map (fun x : AV => x.1) = m
  fOwn : OwnForm S w4 (.slice (some ⟨ga, 0, none⟩) l.length ka) (.slice (some ⟨gc, 0, none⟩) c.length kc) p c
  gOwn : OwnForm w4.heap.size w5 (.slice (some ⟨gb, 0, none⟩) m.length kb) (.slice (some ⟨gd, 0, none⟩) d.length kd) q d
  S4 : S ≤ w4.heap.size
  but4 : But (fun b => b < S) w4 wx
  but5 : But (fun b => b < S) w5 wx
theorem but_narrow {C D : Nat → Prop} {w w' : World} (h : But D w w') (hcd : ∀ b, b < w.heap.size → D b → C b) : But C w w' := ⟨h.os, h.tape, h.output, h.size, fun k hk hc => h.block k hk (fun e => hc (hcd k hk e))⟩
/-- In the midst of the three appends: row 1 (atoms), row 2 (signs), and the one sign behind these, if it lies already. -/
structure App3 (wL W : World) (S ga gc : Nat) (v1 : Value) (n1 : Nat) (xs1 : List Value) (v2 : Value) (n2 : Nat) (xs2 : List Value) (os : Option Nat) : Prop where
  but : But (fun b => b = ga ∨ b = gc) wL W
  r1 : W.ownsRow S 32 4 v1 n1 xs1
  r2 : W.ownsRow S 3 1 v2 n2 xs2
  ne : ∀ a b, v1.ownBlock = some a → v2.ownBlock = some b → a ≠ b
  lo1 : ∀ a, v1.ownBlock = some a → a = ga ∨ wL.heap.size ≤ a
  lo2 : ∀ a, v2.ownBlock = some a → a = gc ∨ wL.heap.size ≤ a
  one : ∀ s, os = some s → Blk W s 3 #[.int .i64 10] ∧ (∀ a, v1.ownBlock = some a → a ≠ s) ∧ (∀ a, v2.ownBlock = some a → a ≠ s)
theorem App3.alloc10 {wL W : World} {S ga gc : Nat} {v1 : Value} {n1 : Nat} {xs1 : List Value} {v2 : Value} {n2 : Nat} {xs2 : List Value} {os : Option Nat} (h : App3 wL W S ga gc v1 n1 xs1 v2 n2 xs2 os) :
    App3 wL (W.alloc (.cells #[.int .i64 10] 3)) S ga gc v1 n1 xs1 v2 n2 xs2 (some W.heap.size) :=
  ⟨h.but.alloc _, h.r1.alloc _, h.r2.alloc _, h.ne, h.lo1, h.lo2, fun s hs => by
    cases hs
    exact ⟨Blk.new W _ _, fun a ha => by have := (h.r1.lt a ha).2; omega, fun a ha => by have := (h.r2.lt a ha).2; omega⟩⟩
theorem App3.grow1 {wL W W' : World} {S ga gc : Nat} {v1 : Value} {n1 n1' g k : Nat} {xs1 xs1' : List Value} {v2 : Value} {n2 : Nat} {xs2 : List Value} {os : Option Nat} (h : App3 wL W S ga gc v1 n1 xs1 v2 n2 xs2 os)
    (ho : W'.ownsRow S 32 4 (.slice (some ⟨g, 0, none⟩) n1' k) n1' xs1') (hg : W.grownBy W' v1.ownBlock) (hat : v1.ownBlock = some g ∨ g = W.heap.size) : App3 wL W' S ga gc (.slice (some ⟨g, 0, none⟩) n1' k) n1' xs1' v2 n2 xs2 os := by
  have hb := But.of_grown hg
  have hsz := h.but.size
  refine ⟨but_narrow ((h.but.wide (D := fun b => (b = ga ∨ b = gc) ∨ v1.ownBlock = some b) fun _ e => .inl e).trans (hb.wide fun _ e => .inr e)) (fun b hb e => ?_), ho, own_but h.r2 hb (fun b e e1 => h.ne b b e1 e rfl), fun a b ea eb => ?_, fun a ea => ?_, h.lo2, fun s hs => ?_⟩
  · rcases e with e | e
    · exact e
    · rcases h.lo1 b e with e | e
      · exact .inl e
      · omega
  · simp only [Value.ownBlock, Option.some.injEq] at ea
    subst ea
    rcases hat with h1 | h1
    · exact h.ne g b h1 eb
    · have := (h.r2.lt b eb).2; omega
  · simp only [Value.ownBlock, Option.some.injEq] at ea
    subst ea
    rcases hat with h1 | h1
    · exact h.lo1 g h1
    · exact .inr (by omega)
  · obtain ⟨g1, g2, g3⟩ := h.one s hs
    refine ⟨g1.but hb (fun e => g2 s e rfl), fun a ea => ?_, g3⟩
    simp only [Value.ownBlock, Option.some.injEq] at ea
    subst ea
    rcases hat with h1 | h1
    · exact g2 g h1
    · have := g1.lt; omega
theorem App3.grow2 {wL W W' : World} {S ga gc : Nat} {v1 : Value} {n1 : Nat} {xs1 : List Value} {v2 : Value} {n2 n2' g k : Nat} {xs2 xs2' : List Value} {os : Option Nat} (h : App3 wL W S ga gc v1 n1 xs1 v2 n2 xs2 os)
    (ho : W'.ownsRow S 3 1 (.slice (some ⟨g, 0, none⟩) n2' k) n2' xs2') (hg : W.grownBy W' v2.ownBlock) (hat : v2.ownBlock = some g ∨ g = W.heap.size) : App3 wL W' S ga gc v1 n1 xs1 (.slice (some ⟨g, 0, none⟩) n2' k) n2' xs2' os := by
  have hb := But.of_grown hg
  have hsz := h.but.size
  refine ⟨but_narrow ((h.but.wide (D := fun b => (b = ga ∨ b = gc) ∨ v2.ownBlock = some b) fun _ e => .inl e).trans (hb.wide fun _ e => .inr e)) (fun b hb e => ?_), own_but h.r1 hb (fun b e e1 => h.ne b b e e1 rfl), ho, fun a b ea eb => ?_, h.lo1, fun a ea => ?_, fun s hs => ?_⟩
  · rcases e with e | e
    · exact e
    · rcases h.lo2 b e with e | e
      · exact .inr e
      · omega
  · simp only [Value.ownBlock, Option.some.injEq] at eb
    subst eb
    rcases hat with h1 | h1
    · exact h.ne a g ea h1
    · have := (h.r1.lt a ea).2; omega
  · simp only [Value.ownBlock, Option.some.injEq] at ea
    subst ea
    rcases hat with h1 | h1
    · exact h.lo2 g h1
    · exact .inr (by omega)
  · obtain ⟨g1, g2, g3⟩ := h.one s hs
    refine ⟨g1.but hb (fun e => g3 s e rfl), g2, fun a ea => ?_⟩
    simp only [Value.ownBlock, Option.some.injEq] at ea
    subst ea
    rcases hat with h1 | h1
    · exact g3 g h1
    · have := g1.lt; omega
/-- What is read from, lies as it lay. -/
theorem App3.src {wL W : World} {S ga gc : Nat} {v1 : Value} {n1 : Nat} {xs1 : List Value} {v2 : Value} {n2 : Nat} {xs2 : List Value} {os : Option Nat} (h : App3 wL W S ga gc v1 n1 xs1 v2 n2 xs2 os) {g : Nat} {xs : List Value} (hr : Rd wL (some ⟨g, 0, none⟩) xs) (h1 : g ≠ ga) (h2 : g ≠ gc) :
    ∀ j u, xs[j]? = some u → W.cell? ((⟨g, 0, none⟩ : Addr).add j) = some u := fun j u hj => by
  obtain ⟨ad, e, hc⟩ := hr j u hj
  cases e
  refine cell_but h.but hc ?_
  have : ((⟨g, 0, none⟩ : Addr).add j).block = g := by unfold Addr.add; split <;> rfl
  rw [this]
  exact fun e => by rcases e with e | e; exact h1 e; exact h2 e
theorem App3.ten {wL W : World} {S ga gc : Nat} {v1 : Value} {n1 : Nat} {xs1 : List Value} {v2 : Value} {n2 : Nat} {xs2 : List Value} {s : Nat} (h : App3 wL W S ga gc v1 n1 xs1 v2 n2 xs2 (some s)) :
    ∀ j u, ([.int .i64 10] : List Value)[j]? = some u → W.cell? ((⟨s, 0, none⟩ : Addr).add j) = some u := fun j u hj => by
  match j, hj with
  | 0, hj =>
    simp at hj
    subst hj
    simpa [Addr.add] using (h.one s rfl).1.cell 0
theorem App3.box {wL W : World} {S ga gc : Nat} {v1 : Value} {n1 : Nat} {xs1 : List Value} {v2 : Value} {n2 : Nat} {xs2 : List Value} {os : Option Nat} (h : App3 wL W S ga gc v1 n1 xs1 v2 n2 xs2 os) {g : Nat} {t : TypeId} {cs : Array Value} (hB : Blk wL g t cs) (h1 : g ≠ ga) (h2 : g ≠ gc) : Blk W g t cs :=
  hB.but h.but (fun e => by rcases e with e | e; exact h1 e; exact h2 e)
theorem App3.drew {wL W : World} {S ga gc : Nat} {v1 : Value} {n1 : Nat} {xs1 : List Value} {v2 : Value} {n2 : Nat} {xs2 : List Value} {os : Option Nat} (h : App3 wL W S ga gc v1 n1 xs1 v2 n2 xs2 os) : App3 wL W.drew S ga gc v1 n1 xs1 v2 n2 xs2 os :=
  ⟨h.but.drew, h.r1.drew, h.r2.drew, h.ne, h.lo1, h.lo2, fun s hs => ⟨(h.one s hs).1.drew, (h.one s hs).2⟩⟩
/-- The atoms of both, behind all that was done. -/
theorem BothAt.ok {w wB w4 w5 wo W : World} {S : Nat} {l m : List Venn.Atom} {c d : List Int} {p q : List AV} {ga ka gc kc gb kb gd kd : Nat} (h : BothAt w wB w4 w5 S l m c d p q ga ka gc kc gb kb gd kd)
    (hbt : But (fun b => b = gd) wB wo) (hW : But (fun b => (b = ga ∨ b = gc) ∨ b < S) wo W) : AOk W (p ++ q) := by
  have hga := h.fOwn.aRow.lt ga rfl
  have hgc := h.fOwn.cRow.lt gc rfl
  have hgd := h.gOwn.cRow.lt gd rfl
  have b4 : But (fun b => (b = ga ∨ b = gc) ∨ b < S) w4 W := but_narrow (((h.but4.wide (D := fun b => ((b = ga ∨ b = gc) ∨ b < S) ∨ b = gd) fun _ e => .inl (.inr e)).trans (hbt.wide fun _ e => .inr e)).trans (hW.wide fun _ e => .inl e)) (fun b hb e => by
    rcases e with e | e
    · exact e
    · omega)
  have b5 : But (fun b => ((b = ga ∨ b = gc) ∨ b < S) ∨ b = gd) w5 W := ((h.but5.wide (D := fun b => ((b = ga ∨ b = gc) ∨ b < S) ∨ b = gd) fun _ e => .inl (.inr e)).trans (hbt.wide fun _ e => .inr e)).trans (hW.wide fun _ e => .inl e)
  have hp := h.fOwn.ok.but b4 (fun x hx b e hC => by
    obtain ⟨g1, g2, g3⟩ := h.fOwn.far x hx b e
    simp only [Value.ownBlock, ne_eq, Option.some.injEq] at g2 g3
    omega)
  have hq := h.gOwn.ok.but b5 (fun x hx b e hC => by
    obtain ⟨g1, g2, g3⟩ := h.gOwn.far x hx b e
    simp only [Value.ownBlock, ne_eq, Option.some.injEq] at g2 g3
    have := h.S4
    omega)
  intro x hx
  rcases List.mem_append.1 hx with hx | hx
  · exact hp x hx
  · exact hq x hx
theorem held_both {W : World} {f g : Nat} {tF tG : TypeId} {va vc vb vd : Value} (hF : Blk W f tF #[va, vc]) (hG : Blk W g tG #[vb, vd]) :
    W.cell? ⟨f, 0, none⟩ = some va ∧ W.cell? ⟨f, 1, none⟩ = some vc ∧ W.cell? ⟨g, 0, none⟩ = some vb ∧ W.cell? ⟨g, 1, none⟩ = some vd := ⟨hF.cell 0, hF.cell 1, hG.cell 0, hG.cell 1⟩
set_option maxHeartbeats 8000000 in
set_option maxRecDepth 100000 in
theorem form_Both (sa sc sb sd : Value) (l m : List Venn.Atom) (c d : List Int) (w : World) (ha : IsAtoms w sa l) (hc : IsInts w sc c) (hb : IsAtoms w sb m) (hd : IsInts w sd d) (hk : KindsOk w) :
    Calls Tryz.prog 13 #[.agg #[sa, sc], .agg #[sb, sd]] w (FormPost (bothV ⟨l, c⟩ ⟨m, d⟩) (Venn.bothChk ⟨l, c⟩ ⟨m, d⟩) w) := by
  obtain ⟨A, cA, rfl⟩ := ha.slice
  obtain ⟨C, cC, rfl⟩ := hc.slice
  obtain ⟨B, cB, rfl⟩ := hb.slice
  obtain ⟨D, cD, rfl⟩ := hd.slice
  have HA := Lib.hid ha
  have HC := Lib.hid hc
  have HB := Lib.hid hb
  have HD := Lib.hid hd
  have HK := Lib.hid hk
  clear ha hc hb hd hk
  obtain ⟨V, hV⟩ : ∃ V, V = bothV ⟨l, c⟩ ⟨m, d⟩ := ⟨_, rfl⟩
  obtain ⟨E, hE⟩ : ∃ E, E = Venn.bothChk ⟨l, c⟩ ⟨m, d⟩ := ⟨_, rfl⟩
  rw [← hV, ← hE]
  have HV := Lib.hid (show V = if E = 0 then Venn.bothF ⟨l, c⟩ ⟨m, d⟩ else noForm by rw [hV, hE]; rfl)
  have HE := Lib.hid (show E = if Venn.formChk ⟨l, c⟩ = 0 then (if Venn.formChk ⟨m, d⟩ = 0 then (if 6 < l.length + m.length ∨ 19 < c.length + d.length then 4 else 0) else Venn.formChk ⟨m, d⟩) else Venn.formChk ⟨l, c⟩ from hE)
  clear hV hE
  have HC1 := Lib.hid (fun W h1 h2 h3 => form_Check (.slice A l.length cA) (.slice C c.length cC) l c W h1 h2 h3)
  have HC2 := Lib.hid (fun W h1 h2 h3 => form_Check (.slice B m.length cB) (.slice D d.length cD) m d W h1 h2 h3)
  go_enter Tryz.func13, Tryz.ntmps13
  go_upto_region 2 with (fail)
  have BF : Blk ((((w.alloc (.cells #[.slice A l.length cA, .slice C c.length cC] 38)).alloc (.cells #[.slice B m.length cB, .slice D d.length cD] 38)).alloc (.cells #[.slice none 0 0, .slice none 0 0] 38)).alloc (.cells #[.slice A l.length cA, .slice C c.length cC, .slice B m.length cB, .slice D d.length cD] 38)) w.heap.size 38 #[.slice A l.length cA, .slice C c.length cC] := by repeat (first | exact Blk.new _ _ _ | refine Blk.alloc ?_ _)
  have BG : Blk ((((w.alloc (.cells #[.slice A l.length cA, .slice C c.length cC] 38)).alloc (.cells #[.slice B m.length cB, .slice D d.length cD] 38)).alloc (.cells #[.slice none 0 0, .slice none 0 0] 38)).alloc (.cells #[.slice A l.length cA, .slice C c.length cC, .slice B m.length cB, .slice D d.length cD] 38)) (w.heap.size + 1) 38 #[.slice B m.length cB, .slice D d.length cD] := by repeat (first | (refine Blk.newAt ?_ _ _; simp; done) | refine Blk.alloc ?_ _)
  have BR : Blk ((((w.alloc (.cells #[.slice A l.length cA, .slice C c.length cC] 38)).alloc (.cells #[.slice B m.length cB, .slice D d.length cD] 38)).alloc (.cells #[.slice none 0 0, .slice none 0 0] 38)).alloc (.cells #[.slice A l.length cA, .slice C c.length cC, .slice B m.length cB, .slice D d.length cD] 38)) (w.heap.size + 2) 38 #[.slice none 0 0, .slice none 0 0] := by repeat (first | (refine Blk.newAt ?_ _ _; simp; done) | refine Blk.alloc ?_ _)
  have BS : Blk ((((w.alloc (.cells #[.slice A l.length cA, .slice C c.length cC] 38)).alloc (.cells #[.slice B m.length cB, .slice D d.length cD] 38)).alloc (.cells #[.slice none 0 0, .slice none 0 0] 38)).alloc (.cells #[.slice A l.length cA, .slice C c.length cC, .slice B m.length cB, .slice D d.length cD] 38)) (w.heap.size + 3) 38 #[.slice A l.length cA, .slice C c.length cC, .slice B m.length cB, .slice D d.length cD] := by repeat (first | (refine Blk.newAt ?_ _ _; simp; done) | refine Blk.alloc ?_ _)
  have hw1 : Below w.heap.size w ((((w.alloc (.cells #[.slice A l.length cA, .slice C c.length cC] 38)).alloc (.cells #[.slice B m.length cB, .slice D d.length cD] 38)).alloc (.cells #[.slice none 0 0, .slice none 0 0] 38)).alloc (.cells #[.slice A l.length cA, .slice C c.length cC, .slice B m.length cB, .slice D d.length cD] 38)) := by (repeat' (first | (with_reducible exact Below.refl _ _) | (with_reducible assumption) | (with_reducible refine Below.next ?_ (by with_reducible assumption)) | (with_reducible refine Below.drew ?_) | (with_reducible refine Below.laid ?_ _) | (with_reducible refine Below.setCell ?_ ?_ _) | (with_reducible refine size_of ?_) | (with_reducible refine Nat.le_succ_of_le ?_) | go_size))
  revert BF BG BR BS hw1
  generalize World.alloc _ _ = w1
  intro BF BG BR BS hw1
  have hl1 := BS.lt
  refine wp_loop_rounds 3 ?_
  rw [rounds_succ]
  obtain ⟨s0, s1, s2, s3⟩ := BS.cells4
  by_cases h1 : ¬ Venn.formChk ⟨l, c⟩ = 0
  · have HX := Lib.hid (errV_ne h1)
    have HEE := Lib.hid (show E = Venn.formChk ⟨l, c⟩ by rw [HE.out, if_neg h1])
    have HVV := Lib.hid (show V = noForm by rw [HV.out, if_neg (by rw [HEE.out]; exact h1)])
    rw [HX.out] at HC1
    rw [HVV.out, HEE.out]
    clear h1
    go_wp2_with fail
    refine (HC1.out _ (HA.out.keep (by (repeat' (first | (with_reducible exact Below.refl _ _) | (with_reducible assumption) | (with_reducible refine Below.next ?_ (by with_reducible assumption)) | (with_reducible refine Below.drew ?_) | (with_reducible refine Below.laid ?_ _) | (with_reducible refine Below.setCell ?_ ?_ _) | (with_reducible refine size_of ?_) | (with_reducible refine Nat.le_succ_of_le ?_) | go_size)))) (HC.out.keep (by (repeat' (first | (with_reducible exact Below.refl _ _) | (with_reducible assumption) | (with_reducible refine Below.next ?_ (by with_reducible assumption)) | (with_reducible refine Below.drew ?_) | (with_reducible refine Below.laid ?_ _) | (with_reducible refine Below.setCell ?_ ?_ _) | (with_reducible refine size_of ?_) | (with_reducible refine Nat.le_succ_of_le ?_) | go_size)))) (HK.out.keep (by (repeat' (first | (with_reducible exact Below.refl _ _) | (with_reducible assumption) | (with_reducible refine Below.next ?_ (by with_reducible assumption)) | (with_reducible refine Below.drew ?_) | (with_reducible refine Below.laid ?_ _) | (with_reducible refine Below.setCell ?_ ?_ _) | (with_reducible refine size_of ?_) | (with_reducible refine Nat.le_succ_of_le ?_) | go_size))))).mono ?_
    rintro e w2 ⟨rfl, hb2⟩
    have hw2 : Below w.heap.size w w2 := by (repeat' (first | (with_reducible exact Below.refl _ _) | (with_reducible assumption) | (with_reducible refine Below.next ?_ (by with_reducible assumption)) | (with_reducible refine Below.drew ?_) | (with_reducible refine Below.laid ?_ _) | (with_reducible refine Below.setCell ?_ ?_ _) | (with_reducible refine size_of ?_) | (with_reducible refine Nat.le_succ_of_le ?_) | go_size))
    replace BR := (BR.alloc _).keep hb2
    clear BF BG BS s0 s1 s2 s3 hl1 hw1 hb2
    obtain ⟨⟨r0, r1⟩, r2, r3⟩ := BR.cells2
    have GL := below_set2 hw2 (show w.heap.size ≤ w.heap.size + 2 by omega) (.slice none 0 0) (.slice none 0 0)
    have GS := BR.set2 (.slice none 0 0) (.slice none 0 0)
    go_wp2
    clear r0 r1 r2 r3
    revert GL GS
    generalize World.setCell _ _ _ = Wf
    intro GL GS
    obtain ⟨⟨e0, e1⟩, _⟩ := GS.cells2
    refine bodyPost_ret (v := .tuple #[.agg #[.slice none 0 0, .slice none 0 0], .iface 59 (.int .i64 (Venn.formChk ⟨l, c⟩))]) (by simp [results, Tryz.results13, go_sem, e0, e1]) rfl ?_
    rw [← HX.out]
    exact FormPost.none GL
  replace h1 := Decidable.not_not.1 h1
  have HX1 := Lib.hid (errV_zero h1)
  rw [HX1.out] at HC1
  go_wp2_with fail
  refine (HC1.out _ (HA.out.keep (by (repeat' (first | (with_reducible exact Below.refl _ _) | (with_reducible assumption) | (with_reducible refine Below.next ?_ (by with_reducible assumption)) | (with_reducible refine Below.drew ?_) | (with_reducible refine Below.laid ?_ _) | (with_reducible refine Below.setCell ?_ ?_ _) | (with_reducible refine size_of ?_) | (with_reducible refine Nat.le_succ_of_le ?_) | go_size)))) (HC.out.keep (by (repeat' (first | (with_reducible exact Below.refl _ _) | (with_reducible assumption) | (with_reducible refine Below.next ?_ (by with_reducible assumption)) | (with_reducible refine Below.drew ?_) | (with_reducible refine Below.laid ?_ _) | (with_reducible refine Below.setCell ?_ ?_ _) | (with_reducible refine size_of ?_) | (with_reducible refine Nat.le_succ_of_le ?_) | go_size)))) (HK.out.keep (by (repeat' (first | (with_reducible exact Below.refl _ _) | (with_reducible assumption) | (with_reducible refine Below.next ?_ (by with_reducible assumption)) | (with_reducible refine Below.drew ?_) | (with_reducible refine Below.laid ?_ _) | (with_reducible refine Below.setCell ?_ ?_ _) | (with_reducible refine size_of ?_) | (with_reducible refine Nat.le_succ_of_le ?_) | go_size))))).mono ?_
  rintro e w2 ⟨rfl, hb2⟩
  have hw2 : Below w.heap.size w w2 := by (repeat' (first | (with_reducible exact Below.refl _ _) | (with_reducible assumption) | (with_reducible refine Below.next ?_ (by with_reducible assumption)) | (with_reducible refine Below.drew ?_) | (with_reducible refine Below.laid ?_ _) | (with_reducible refine Below.setCell ?_ ?_ _) | (with_reducible refine size_of ?_) | (with_reducible refine Nat.le_succ_of_le ?_) | go_size))
  replace BF := (BF.alloc _).keep hb2
  replace BG := (BG.alloc _).keep hb2
  replace BR := (BR.alloc _).keep hb2
  replace BS := (BS.alloc _).keep hb2
  clear s0 s1 s2 s3 hl1 hw1 hb2
  obtain ⟨s0, s1, s2, s3⟩ := BS.cells4
  have hl1 := BS.lt
  go_wp2
  rw [rounds_succ]
  by_cases h2 : ¬ Venn.formChk ⟨m, d⟩ = 0
  · have HX := Lib.hid (errV_ne h2)
    have HEE := Lib.hid (show E = Venn.formChk ⟨m, d⟩ by rw [HE.out, if_pos h1, if_neg h2])
    have HVV := Lib.hid (show V = noForm by rw [HV.out, if_neg (by rw [HEE.out]; exact h2)])
    rw [HX.out] at HC2
    rw [HVV.out, HEE.out]
    clear h1 h2
    go_wp2_with fail
    refine (HC2.out _ (HB.out.keep (by (repeat' (first | (with_reducible exact Below.refl _ _) | (with_reducible assumption) | (with_reducible refine Below.next ?_ (by with_reducible assumption)) | (with_reducible refine Below.drew ?_) | (with_reducible refine Below.laid ?_ _) | (with_reducible refine Below.setCell ?_ ?_ _) | (with_reducible refine size_of ?_) | (with_reducible refine Nat.le_succ_of_le ?_) | go_size)))) (HD.out.keep (by (repeat' (first | (with_reducible exact Below.refl _ _) | (with_reducible assumption) | (with_reducible refine Below.next ?_ (by with_reducible assumption)) | (with_reducible refine Below.drew ?_) | (with_reducible refine Below.laid ?_ _) | (with_reducible refine Below.setCell ?_ ?_ _) | (with_reducible refine size_of ?_) | (with_reducible refine Nat.le_succ_of_le ?_) | go_size)))) (HK.out.keep (by (repeat' (first | (with_reducible exact Below.refl _ _) | (with_reducible assumption) | (with_reducible refine Below.next ?_ (by with_reducible assumption)) | (with_reducible refine Below.drew ?_) | (with_reducible refine Below.laid ?_ _) | (with_reducible refine Below.setCell ?_ ?_ _) | (with_reducible refine size_of ?_) | (with_reducible refine Nat.le_succ_of_le ?_) | go_size))))).mono ?_
    rintro e w3 ⟨rfl, hb3⟩
    have hw3 : Below w.heap.size w w3 := by (repeat' (first | (with_reducible exact Below.refl _ _) | (with_reducible assumption) | (with_reducible refine Below.next ?_ (by with_reducible assumption)) | (with_reducible refine Below.drew ?_) | (with_reducible refine Below.laid ?_ _) | (with_reducible refine Below.setCell ?_ ?_ _) | (with_reducible refine size_of ?_) | (with_reducible refine Nat.le_succ_of_le ?_) | go_size))
    replace BR := (BR.alloc _).keep hb3
    clear BF BG BS s0 s1 s2 s3 hl1 hw2 hb3
    obtain ⟨⟨r0, r1⟩, r2, r3⟩ := BR.cells2
    have GL := below_set2 hw3 (show w.heap.size ≤ w.heap.size + 2 by omega) (.slice none 0 0) (.slice none 0 0)
    have GS := BR.set2 (.slice none 0 0) (.slice none 0 0)
    go_wp2
    clear r0 r1 r2 r3
    revert GL GS
    generalize World.setCell _ _ _ = Wf
    intro GL GS
    obtain ⟨⟨e0, e1⟩, _⟩ := GS.cells2
    refine bodyPost_ret (v := .tuple #[.agg #[.slice none 0 0, .slice none 0 0], .iface 59 (.int .i64 (Venn.formChk ⟨m, d⟩))]) (by simp [results, Tryz.results13, go_sem, e0, e1]) rfl ?_
    rw [← HX.out]
    exact FormPost.none GL
  replace h2 := Decidable.not_not.1 h2
  have HX2 := Lib.hid (errV_zero h2)
  rw [HX2.out] at HC2
  go_wp2_with fail
  refine (HC2.out _ (HB.out.keep (by (repeat' (first | (with_reducible exact Below.refl _ _) | (with_reducible assumption) | (with_reducible refine Below.next ?_ (by with_reducible assumption)) | (with_reducible refine Below.drew ?_) | (with_reducible refine Below.laid ?_ _) | (with_reducible refine Below.setCell ?_ ?_ _) | (with_reducible refine size_of ?_) | (with_reducible refine Nat.le_succ_of_le ?_) | go_size)))) (HD.out.keep (by (repeat' (first | (with_reducible exact Below.refl _ _) | (with_reducible assumption) | (with_reducible refine Below.next ?_ (by with_reducible assumption)) | (with_reducible refine Below.drew ?_) | (with_reducible refine Below.laid ?_ _) | (with_reducible refine Below.setCell ?_ ?_ _) | (with_reducible refine size_of ?_) | (with_reducible refine Nat.le_succ_of_le ?_) | go_size)))) (HK.out.keep (by (repeat' (first | (with_reducible exact Below.refl _ _) | (with_reducible assumption) | (with_reducible refine Below.next ?_ (by with_reducible assumption)) | (with_reducible refine Below.drew ?_) | (with_reducible refine Below.laid ?_ _) | (with_reducible refine Below.setCell ?_ ?_ _) | (with_reducible refine size_of ?_) | (with_reducible refine Nat.le_succ_of_le ?_) | go_size))))).mono ?_
  rintro e w3 ⟨rfl, hb3⟩
  have hw3 : Below w.heap.size w w3 := by (repeat' (first | (with_reducible exact Below.refl _ _) | (with_reducible assumption) | (with_reducible refine Below.next ?_ (by with_reducible assumption)) | (with_reducible refine Below.drew ?_) | (with_reducible refine Below.laid ?_ _) | (with_reducible refine Below.setCell ?_ ?_ _) | (with_reducible refine size_of ?_) | (with_reducible refine Nat.le_succ_of_le ?_) | go_size))
  replace BF := (BF.alloc _).keep hb3
  replace BG := (BG.alloc _).keep hb3
  replace BR := (BR.alloc _).keep hb3
  clear BS s0 s1 s2 s3 hl1 hw2 hb3
  go_wp2
  rw [rounds_succ]
  obtain ⟨⟨f0, f1⟩, _⟩ := BF.cells2
  obtain ⟨⟨g0, g1⟩, _⟩ := BG.cells2
  have hl3 := BR.lt
  obtain ⟨⟨hl0, hl6⟩, ⟨hc0, hc20⟩, _⟩ := form_small h1
  obtain ⟨⟨hm0, hm6⟩, ⟨hd0, hd20⟩, _⟩ := form_small h2
  have hwa : IntKind.i64.wrap ((l.length : Int) + (m.length : Int)) = (l.length : Int) + (m.length : Int) := IntWalk.i64_in _ (by omega)
  have hwc : IntKind.i64.wrap ((c.length : Int) + (d.length : Int)) = (c.length : Int) + (d.length : Int) := IntWalk.i64_in _ (by omega)
  have hwd : IntKind.i64.wrap ((c.length : Int) + (d.length : Int) + 1) = (c.length : Int) + (d.length : Int) + 1 := IntWalk.i64_in _ (by omega)
  by_cases h3 : 6 < l.length + m.length ∨ 19 < c.length + d.length
  · have HEE := Lib.hid (show E = 4 by rw [HE.out, if_pos h1, if_pos h2, if_pos h3])
    have HVV := Lib.hid (show V = noForm by rw [HV.out, if_neg (by rw [HEE.out]; decide)])
    clear h1 h2
    rcases (by omega : 6 < (l.length : Int) + (m.length : Int) ∨ (¬ 6 < (l.length : Int) + (m.length : Int) ∧ 20 < (c.length : Int) + (d.length : Int) + 1)) with h4 | ⟨h4, h5⟩
    all_goals
      obtain ⟨⟨r0, r1⟩, r2, r3⟩ := BR.cells2
      have GL := below_set2 hw3 (show w.heap.size ≤ w.heap.size + 2 by omega) (.slice none 0 0) (.slice none 0 0)
      have GS := BR.set2 (.slice none 0 0) (.slice none 0 0)
      go_wp2
      clear r0 r1 r2 r3
      revert GL GS
      generalize World.setCell _ _ _ = Wf
      intro GL GS
      obtain ⟨⟨e0, e1⟩, _⟩ := GS.cells2
      refine bodyPost_ret (v := .tuple #[.agg #[.slice none 0 0, .slice none 0 0], .iface 59 (.int .i64 4)]) (by simp [results, Tryz.results13, go_sem, e0, e1]) rfl ?_
      rw [HVV.out, HEE.out]
      exact FormPost.none GL
  have HEE := Lib.hid (show E = 0 by rw [HE.out, if_pos h1, if_pos h2, if_neg h3])
  have HVV := Lib.hid (show V = ⟨l ++ m, c ++ d.map (Venn.sh l.length) ++ [10]⟩ by rw [HV.out, if_pos HEE.out]; rfl)
  have HF1 := Lib.hid h1
  have HF2 := Lib.hid h2
  rw [HVV.out, HEE.out]
  have h4 : ¬ 6 < (l.length : Int) + (m.length : Int) := by omega
  have h5 : ¬ 20 < (c.length : Int) + (d.length : Int) + 1 := by omega
  have hcd : c.length + d.length ≤ 19 := by omega
  clear h1 h2 h3
  go_upto_region 11 with (fail)
  clear hwa hwc hwd h4 h5
  go_cut [10] (fun s10 wx => ∃ (w4 w5 : World) (p q : List AV) (ga ka gc kc gb kb gd kd : Nat), BothAt w wx w4 w5 w3.heap.size l m c d p q ga ka gc kc gb kb gd kd)
  case first =>
    go_region_law (first
      | (have hx := hFirst; go_simp; go_at_call 33; refine (form_Own _ _ m d _ (HB.out.keep (by (repeat' (first | (with_reducible exact Below.refl _ _) | (with_reducible assumption) | (with_reducible refine Below.next ?_ (by with_reducible assumption)) | (with_reducible refine Below.drew ?_) | (with_reducible refine Below.laid ?_ _) | (with_reducible refine Below.setCell ?_ ?_ _) | (with_reducible refine size_of ?_) | (with_reducible refine Nat.le_succ_of_le ?_) | go_size)))) (HD.out.keep (by (repeat' (first | (with_reducible exact Below.refl _ _) | (with_reducible assumption) | (with_reducible refine Below.next ?_ (by with_reducible assumption)) | (with_reducible refine Below.drew ?_) | (with_reducible refine Below.laid ?_ _) | (with_reducible refine Below.setCell ?_ ?_ _) | (with_reducible refine size_of ?_) | (with_reducible refine Nat.le_succ_of_le ?_) | go_size)))) HF2.out).mono ?_; rintro e w5 ⟨q, gb, kb, gd, kd, rfl, hb5, hql, HQ⟩
         have BF5 := BF4.keep hb5; have BG5 := BG4.keep hb5; have BR5 := BR4.keep hb5; obtain ⟨⟨x0, x1⟩, x2, x3⟩ := BF5.cells2; obtain ⟨⟨y0, y1⟩, y2, y3⟩ := BG5.cells2; have hl5 := BR5.lt)
      | (go_simp; go_at_call 33; refine (form_Own _ _ l c _ (HA.out.keep (by (repeat' (first | (with_reducible exact Below.refl _ _) | (with_reducible assumption) | (with_reducible refine Below.next ?_ (by with_reducible assumption)) | (with_reducible refine Below.drew ?_) | (with_reducible refine Below.laid ?_ _) | (with_reducible refine Below.setCell ?_ ?_ _) | (with_reducible refine size_of ?_) | (with_reducible refine Nat.le_succ_of_le ?_) | go_size)))) (HC.out.keep (by (repeat' (first | (with_reducible exact Below.refl _ _) | (with_reducible assumption) | (with_reducible refine Below.next ?_ (by with_reducible assumption)) | (with_reducible refine Below.drew ?_) | (with_reducible refine Below.laid ?_ _) | (with_reducible refine Below.setCell ?_ ?_ _) | (with_reducible refine size_of ?_) | (with_reducible refine Nat.le_succ_of_le ?_) | go_size)))) HF1.out).mono ?_; rintro e w4 ⟨p, ga, ka, gc, kc, rfl, hb4, hpl, HO⟩
         have hFirst := True.intro
         have BF4 := BF.drew.keep hb4; have BG4 := BG.drew.keep hb4; have BR4 := BR.drew.keep hb4; obtain ⟨⟨x0, x1⟩, x2, x3⟩ := BF4.cells2; obtain ⟨⟨y0, y1⟩, y2, y3⟩ := BG4.cells2; have hl4 := BR4.lt))
    all_goals
      go_wp2
      go_meet
      case rel =>
        have hS4 : w3.heap.size ≤ w4.heap.size := hb4.size
        refine ⟨w4, w5, p, q, ga, ka, gc, kc, gb, kb, gd, kd, ⟨below_set2 (below_set2 (by (repeat' (first | (with_reducible exact Below.refl _ _) | (with_reducible assumption) | (with_reducible refine Below.next ?_ (by with_reducible assumption)) | (with_reducible refine Below.drew ?_) | (with_reducible refine Below.laid ?_ _) | (with_reducible refine Below.setCell ?_ ?_ _) | (with_reducible refine size_of ?_) | (with_reducible refine Nat.le_succ_of_le ?_) | go_size))) (Nat.le_refl _) _ _) (show w.heap.size ≤ w.heap.size + 1 by omega) _ _,
          ((BF5.set2 _ _).far (p := ⟨w.heap.size + 1, 0, none⟩) (by simp) _).far (p := ⟨w.heap.size + 1, 1, none⟩) (by simp) _,
          ((BG5.far (p := ⟨w.heap.size, 0, none⟩) (by simp) _).far (p := ⟨w.heap.size, 1, none⟩) (by simp) _).set2 _ _,
          (((BR5.far (p := ⟨w.heap.size, 0, none⟩) (by simp) _).far (p := ⟨w.heap.size, 1, none⟩) (by simp) _).far (p := ⟨w.heap.size + 1, 0, none⟩) (by simp) _).far (p := ⟨w.heap.size + 1, 1, none⟩) (by simp) _,
          hl3, hpl, hql, HO.mono (Nat.le_refl _), HQ, hS4,
          ((((But.of_below hb5).set_ (p := ⟨w.heap.size, 0, none⟩) (by show w.heap.size < w3.heap.size; omega) _).set_ (p := ⟨w.heap.size, 1, none⟩) (by show w.heap.size < w3.heap.size; omega) _).set_ (p := ⟨w.heap.size + 1, 0, none⟩) (by show w.heap.size + 1 < w3.heap.size; omega) _).set_ (p := ⟨w.heap.size + 1, 1, none⟩) (by show w.heap.size + 1 < w3.heap.size; omega) _,
          ((((But.refl _ w5).set_ (p := ⟨w.heap.size, 0, none⟩) (by show w.heap.size < w3.heap.size; omega) _).set_ (p := ⟨w.heap.size, 1, none⟩) (by show w.heap.size < w3.heap.size; omega) _).set_ (p := ⟨w.heap.size + 1, 0, none⟩) (by show w.heap.size + 1 < w3.heap.size; omega) _).set_ (p := ⟨w.heap.size + 1, 1, none⟩) (by show w.heap.size + 1 < w3.heap.size; omega) _⟩⟩
  case rest =>
    obtain ⟨w4, w5, p, q, ga, ka, gc, kc, gb, kb, gd, kd, hAt⟩ := hcut
    obtain ⟨wB, rfl⟩ : ∃ wB : World, wB = wc := ⟨_, rfl⟩
    have hgdS := (hAt.gOwn.cRow.lt gd rfl).1
    have hgbS := (hAt.gOwn.aRow.lt gb rfl).1
    have hgaS := (hAt.fOwn.aRow.lt ga rfl)
    have hgcS := (hAt.fOwn.cRow.lt gc rfl)
    have hgne := hAt.gOwn.ne gb gd rfl rfl
    have hfne := hAt.fOwn.ne ga gc rfl rfl
    have hS4 := hAt.S4
    have hhS := hAt.hS
    have hrow5 := own_but hAt.gOwn.cRow hAt.but5 (fun b e hC => by simp only [Value.ownBlock, Option.some.injEq] at e; omega)
    obtain ⟨gd', kd', cur0, hve, _, BD0, hkd1, hkd2, hkd3, hkd4⟩ := own_cons hrow5 hd0
    simp only [Value.slice.injEq, Option.some.injEq, Addr.mk.injEq, true_and, and_true] at hve
    obtain ⟨rfl, rfl⟩ := hve
    have HAT := Lib.hid hAt
    have HKD := Lib.hid (And.intro hkd1 hkd2)
    have hcur0 : ∀ j (h : j < d.length), cur0[j]? = some (.int .i64 d[j]) := fun j h => by
      have h2 : (cur0.toList.take (d.length * 1))[j]? = some (.int .i64 d[j]) := by rw [hkd4]; simp [h]
      rw [List.getElem?_take, if_pos (by omega)] at h2
      simpa using h2
    have HCUR := Lib.hid hcur0
    have hsd : ∀ s ∈ d, 0 ≤ s ∧ s ≤ 13 := fun s hs => by
      rcases Venn.codeOk_cases (List.all_eq_true.1 (Venn.formChk_parts HF2.out).2.2.2.2.2.1 s hs) with h | h | h | h | h <;> omega
    have HSD := Lib.hid hsd
    obtain ⟨⟨g0, g1⟩, _⟩ := hAt.gBox.cells2
    have hlB := hAt.gBox.lt
    have hsz0 : cur0.size = kd := by omega
    clear hAt hrow5 hkd3 hkd4 hcur0 hsd
    go_wp2
    go_loopw [56] (fun i wr => ∃ (k : Nat) (cur : Array Value), k ≤ d.length ∧ i = .int .i64 k ∧ But (fun b => b = gd) wB wr ∧ Blk wr gd 3 cur ∧ cur.size = kd ∧ ∀ j (h : j < d.length), cur[j]? = some (.int .i64 (if j < k then Venn.sh l.length d[j] else d[j]))) (fun i _ => d.length - (intOf i).toNat)
    case atStart => exact ⟨0, cur0, Nat.zero_le _, rfl, But.refl _ _, BD0, hsz0, fun j h => by rw [if_neg (by omega)]; exact HCUR.out j h⟩
    case round =>
      clear BD0 g0 g1 hlB hsz0
      obtain ⟨k, cur, hk, rfl, hbt, hBD, hsz, hcur⟩ := hrel
      obtain ⟨wo, rfl⟩ : ∃ wo : World, wo = wr := ⟨_, rfl⟩
      have HCU := Lib.hid hcur
      have BFo := HAT.out.fBox.but hbt (by omega)
      have BGo := HAT.out.gBox.but hbt (by omega)
      have BRo := HAT.out.rBox.but hbt (by omega)
      have hld := hBD.lt
      by_cases hlt : k < d.length
      · obtain ⟨⟨g0, g1⟩, _⟩ := BGo.cells2
        have hlo := BGo.lt
        have hck := hcur k hlt
        rw [if_neg (by omega)] at hck
        have hsk := HSD.out _ (List.getElem_mem hlt)
        have HDK := Lib.hid (show d[k]? = some d[k] from List.getElem?_eq_getElem hlt)
        generalize d[k] = s at hck hsk HDK
        have hcell : wo.cell? ⟨gd, k, none⟩ = some (.int .i64 s) := (hBD.cell k).trans hck
        have hfz := hBD.frozen k
        have hk1 : (k : Int) < (d.length : Int) := by omega
        have hk0 : (0 : Int) ≤ (k : Int) := by omega
        clear hcur hck
        by_cases h6 : s < 6
        · have hwr : IntKind.i64.wrap (s + (l.length : Int)) = s + (l.length : Int) := IntWalk.i64_in _ (by omega)
          have HN := Lib.hid (show ∀ j (h : j < d.length), (cur.setIfInBounds k (.int .i64 (s + (l.length : Int))))[j]? = some (.int .i64 (if j < k + 1 then Venn.sh l.length d[j] else d[j])) from fun j h => by
            rw [Array.getElem?_setIfInBounds]
            by_cases hjk : k = j
            · subst hjk
              have hd' : d[k] = s := by have := HDK.out; rw [List.getElem?_eq_getElem h] at this; exact Option.some.inj this
              rw [if_pos rfl, if_pos (by have := HKD.out.1; omega), if_pos (by omega), hd', Venn.sh, if_pos h6]
            · rw [if_neg hjk, HCU.out j h]
              by_cases hj : j < k
              · rw [if_pos hj, if_pos (by omega)]
              · rw [if_neg hj, if_neg (by omega)])
          have hBD2 := hBD.set_ k (.int .i64 (s + (l.length : Int)))
          go_wp2
          go_roundw
          case rel => exact ⟨k + 1, _, by omega, by go_num, hbt.set_ (p := ⟨gd, k, none⟩) rfl _, hBD2, by simpa using hsz, HN.out⟩
          case measure => simp [intOf]; omega
        · have HN := Lib.hid (show ∀ j (h : j < d.length), cur[j]? = some (.int .i64 (if j < k + 1 then Venn.sh l.length d[j] else d[j])) from fun j h => by
            rw [HCU.out j h]
            by_cases hjk : j = k
            · subst hjk
              have hd' : d[j] = s := by have := HDK.out; rw [List.getElem?_eq_getElem h] at this; exact Option.some.inj this
              rw [if_neg (by omega), if_pos (by omega), hd', Venn.sh, if_neg h6]
            · by_cases hj : j < k
              · rw [if_pos hj, if_pos (by omega)]
              · rw [if_neg hj, if_neg (by omega)])
          go_wp2
          go_roundw
          case rel => exact ⟨k + 1, cur, by omega, by go_num, hbt, hBD, hsz, HN.out⟩
          case measure => simp [intOf]; omega
      · obtain rfl : k = d.length := by omega
        have HRB := Lib.hid (show Rd wo (some ⟨gb, 0, none⟩) (aCells q) from fun j u hj => ⟨_, rfl, (own_but (own_but HAT.out.gOwn.aRow HAT.out.but5 (fun b e hC => by simp only [Value.ownBlock, Option.some.injEq] at e; omega)) hbt (fun b e hC => by simp only [Value.ownBlock, Option.some.injEq] at e; omega)).cells (g := gb) rfl j u hj⟩)
        have HRD := Lib.hid (show Rd wo (some ⟨gd, 0, none⟩) ((d.map (Venn.sh l.length)).map (Value.int .i64)) from fun j u hj => by
          refine ⟨_, rfl, ?_⟩
          have hadd : (⟨gd, 0, none⟩ : Addr).add j = ⟨gd, j, none⟩ := by unfold Addr.add; split <;> simp_all
          have hjd : j < d.length := by
            have := (List.getElem?_eq_some_iff.1 hj).1
            simpa using this
          rw [hadd, hBD.cell j, HCU.out j hjd, if_pos hjd, ← hj]
          simp [hjd])
        have hpl : p.length = l.length := by rw [← HAT.out.pl]; simp
        have hql : q.length = m.length := by rw [← HAT.out.ql]; simp
        have r1 := own_but (own_but HAT.out.fOwn.aRow HAT.out.but4 (fun b e hC => by simp only [Value.ownBlock, Option.some.injEq] at e; omega)) hbt (fun b e hC => by simp only [Value.ownBlock, Option.some.injEq] at e; omega)
        have r2 := own_but (own_but HAT.out.fOwn.cRow HAT.out.but4 (fun b e hC => by simp only [Value.ownBlock, Option.some.injEq] at e; omega)) hbt (fun b e hC => by simp only [Value.ownBlock, Option.some.injEq] at e; omega)
        rw [hpl] at r1
        have SS0 : App3 wo wo w3.heap.size ga gc (.slice (some ⟨ga, 0, none⟩) l.length ka) l.length (aCells p) (.slice (some ⟨gc, 0, none⟩) c.length kc) c.length (c.map (Value.int .i64)) none :=
          ⟨But.refl _ _, r1, r2, fun a b ea eb => by simp only [Value.ownBlock, Option.some.injEq] at ea eb; omega, fun a ea => by simp only [Value.ownBlock, Option.some.injEq] at ea; exact .inl ea.symm, fun a ea => by simp only [Value.ownBlock, Option.some.injEq] at ea; exact .inl ea.symm, fun s hs => by cases hs⟩
        have SS := SS0
        have hSL : w3.heap.size ≤ wo.heap.size := by have := (r1.lt ga rfl).2; omega
        have HLQ := Lib.hid (show (aCells q).length = m.length * 4 by rw [aCells_len, hql])
        have HON := Lib.hid (show ∀ u ∈ aCells q, u.oneCell' = true from aCells_one HAT.out.gOwn.ok)
        have HBT := Lib.hid hbt
        have hb1 : gb ≠ ga := by omega
        have hb2 : gb ≠ gc := by omega
        have hd1 : gd ≠ ga := by omega
        have hd2 : gd ≠ gc := by omega
        have hn1 : w.heap.size ≠ ga := by omega
        have hn2 : w.heap.size ≠ gc := by omega
        have hn3 : w.heap.size + 1 ≠ ga := by omega
        have hn4 : w.heap.size + 1 ≠ gc := by omega
        have hn5 : w.heap.size + 2 ≠ ga := by omega
        have hn6 : w.heap.size + 2 ≠ gc := by omega
        have hqA1 : l.length + m.length ≤ maxLen := by unfold maxLen; omega
        have hqA2 : (l.length + m.length) * 64 ≤ 140737488355328 := by omega
        have hqB1 : c.length + d.length ≤ maxLen := by unfold maxLen; omega
        have hqB2 : (c.length + d.length) * 8 ≤ 140737488355328 := by omega
        have hqC1 : c.length + d.length + 1 ≤ maxLen := by unfold maxLen; omega
        have hqC2 : (c.length + d.length + 1) * 8 ≤ 140737488355328 := by omega
        have HLD := Lib.hid (show ((d.map (Venn.sh l.length)).map (Value.int .i64)).length = d.length * 1 by simp)
        have HOD := Lib.hid (show ∀ u ∈ (d.map (Venn.sh l.length)).map (Value.int .i64), u.oneCell' = true from fun u hu => by
          obtain ⟨y, _, rfl⟩ := List.mem_map.1 hu
          rfl)
        have HO10 := Lib.hid (show ∀ u ∈ ([.int .i64 10] : List Value), u.oneCell' = true from fun u hu => by
          rw [List.mem_singleton.1 hu]
          rfl)
        obtain ⟨ia, hia, hza0, hza1, hza2⟩ := info_parts atom_info
        obtain ⟨ii, hii, hzi0, hzi1, hzi2⟩ := info_parts int_info
        obtain ⟨⟨x0, x1⟩, x2, x3⟩ := BFo.cells2
        obtain ⟨⟨y0, y1⟩, y2, y3⟩ := BGo.cells2
        obtain ⟨⟨z0, z1⟩, z2, z3⟩ := BRo.cells2
        have QF := BFo
        have QG := BGo
        have QR := BRo
        have hlQ := BRo.lt
        have hlF := BFo.lt
        have hlG := BGo.lt
        clear hcur HCU HCUR r1 r2 SS0 hbt hlt hk HF1 HF2 HC1 HC2 HA HB HC HD HK HSD HKD HX1 HX2 HV HE hsz hgdS hgbS hgne hld hcd hl6 hm6 hc0 hl0 hc20 hd20 hpl hql
        go_upto_region 18 with (fail)
        go_cut [5] (fun s5 wx => s5 = .nilIface ∧ ∃ g1 k1 g3 k3, Blk wx (w.heap.size + 2) 38 #[(.slice (some ⟨g1, 0, none⟩) (l.length + m.length) k1), (.slice (some ⟨g3, 0, none⟩) (c.length + d.length + 1) k3)] ∧ Below w.heap.size w wx ∧ IsAtoms wx (.slice (some ⟨g1, 0, none⟩) (l.length + m.length) k1) (l ++ m) ∧ IsInts wx (.slice (some ⟨g3, 0, none⟩) (c.length + d.length + 1) k3) (c ++ d.map (Venn.sh l.length) ++ [10]))
        case first =>
          go_region_held3 (fun w' => w'.cell? ⟨w.heap.size, 0, none⟩ = some (.slice (some ⟨ga, 0, none⟩) l.length ka) ∧ w'.cell? ⟨w.heap.size, 1, none⟩ = some (.slice (some ⟨gc, 0, none⟩) c.length kc) ∧ w'.cell? ⟨w.heap.size + 1, 0, none⟩ = some (.slice (some ⟨gb, 0, none⟩) m.length kb) ∧ w'.cell? ⟨w.heap.size + 1, 1, none⟩ = some (.slice (some ⟨gd, 0, none⟩) d.length kd))
            (first | with_reducible exact held_both QF QG | with_reducible exact held_both QF.drew QG.drew | with_reducible exact held_both (QF.alloc _) (QG.alloc _) | with_reducible exact held_both (QF.drew.alloc _) (QG.drew.alloc _) | with_reducible exact held_both (QF.alloc _).drew (QG.alloc _).drew | exact held_both (QF.far (p := ⟨w.heap.size + 2, 0, none⟩) (by simp) _) (QG.far (p := ⟨w.heap.size + 2, 0, none⟩) (by simp) _) | exact held_both ((QF.far (p := ⟨w.heap.size + 2, 0, none⟩) (by simp) _).far (p := ⟨w.heap.size + 2, 1, none⟩) (by simp) _) ((QG.far (p := ⟨w.heap.size + 2, 0, none⟩) (by simp) _).far (p := ⟨w.heap.size + 2, 1, none⟩) (by simp) _))
            (first
            | (refine step_append_lies _ (by rfl) _ _ _ (by rfl) w3.heap.size 32 ia _ 4 64 Tryz.underlying22 hia hza0 hza1 hza2 rfl (by decide) (.slice (some ⟨ga, 0, none⟩) l.length ka) l.length (aCells p) (by rfl) (by first | with_reducible exact (SS).r1 | with_reducible exact (SS.alloc10).r1 | with_reducible exact (SS.alloc10.drew).r1 | with_reducible exact (SS.drew).r1 | with_reducible exact (SS.drew.alloc10).r1)
                 ⟨gb, 0, none⟩ m.length kb (aCells q) (by rfl) HLQ.out (by first | with_reducible exact (SS).src HRB.out hb1 hb2 | with_reducible exact (SS.alloc10).src HRB.out hb1 hb2 | with_reducible exact (SS.alloc10.drew).src HRB.out hb1 hb2 | with_reducible exact (SS.drew).src HRB.out hb1 hb2 | with_reducible exact (SS.drew.alloc10).src HRB.out hb1 hb2) HON.out hm0 hqA1 hqA2 (by first | with_reducible exact Nat.le_trans hSL (SS).but.size | with_reducible exact Nat.le_trans hSL (SS.alloc10).but.size | with_reducible exact Nat.le_trans hSL (SS.alloc10.drew).but.size | with_reducible exact Nat.le_trans hSL (SS.drew).but.size | with_reducible exact Nat.le_trans hSL (SS.drew.alloc10).but.size) _ rfl ?_
               intro g1 k1 WW hown hgr hat hltW
               first | (with_reducible have SZ := (SS).grow1 hown hgr hat) | (with_reducible have SZ := (SS.alloc10).grow1 hown hgr hat) | (with_reducible have SZ := (SS.alloc10.drew).grow1 hown hgr hat) | (with_reducible have SZ := (SS.drew).grow1 hown hgr hat) | (with_reducible have SZ := (SS.drew.alloc10).grow1 hown hgr hat)
               clear SS; have SS := SZ; clear SZ hown hgr hat QF QG QR x0 x1 x2 x3 y0 y1 y2 y3 z0 z1 z2 z3 hlQ hlF hlG; have QF := SS.box BFo hn1 hn2; have QG := SS.box BGo hn3 hn4; have QR := SS.box BRo hn5 hn6; obtain ⟨⟨x0, x1⟩, x2, x3⟩ := QF.cells2; obtain ⟨⟨y0, y1⟩, y2, y3⟩ := QG.cells2; obtain ⟨⟨z0, z1⟩, z2, z3⟩ := QR.cells2; have hlQ := QR.lt; have hlF := QF.lt; have hlG := QG.lt)
            | (have hx := hFirst
               refine step_append_lies _ (by rfl) _ _ _ (by rfl) w3.heap.size 3 ii _ 1 8 Tryz.underlying30 hii hzi0 hzi1 hzi2 rfl (by decide) (.slice (some ⟨g2, 0, none⟩) (c.length + d.length) k2) (c.length + d.length) (c.map (Value.int .i64) ++ (d.map (Venn.sh l.length)).map (Value.int .i64)) (by rfl) (by first | with_reducible exact (SS).r2 | with_reducible exact (SS.alloc10).r2 | with_reducible exact (SS.alloc10.drew).r2 | with_reducible exact (SS.drew).r2 | with_reducible exact (SS.drew.alloc10).r2)
                 ⟨_, 0, none⟩ 1 1 [.int .i64 10] (by rfl) rfl (by first | with_reducible exact (SS).ten | with_reducible exact (SS.alloc10).ten | with_reducible exact (SS.alloc10.drew).ten | with_reducible exact (SS.drew).ten | with_reducible exact (SS.drew.alloc10).ten) HO10.out (by decide) hqC1 hqC2 (by first | with_reducible exact Nat.le_trans hSL (SS).but.size | with_reducible exact Nat.le_trans hSL (SS.alloc10).but.size | with_reducible exact Nat.le_trans hSL (SS.alloc10.drew).but.size | with_reducible exact Nat.le_trans hSL (SS.drew).but.size | with_reducible exact Nat.le_trans hSL (SS.drew.alloc10).but.size) _ rfl ?_
               intro g3 k3 WW hown hgr hat hltW
               first | (with_reducible have SZ := (SS).grow2 hown hgr hat) | (with_reducible have SZ := (SS.alloc10).grow2 hown hgr hat) | (with_reducible have SZ := (SS.alloc10.drew).grow2 hown hgr hat) | (with_reducible have SZ := (SS.drew).grow2 hown hgr hat) | (with_reducible have SZ := (SS.drew.alloc10).grow2 hown hgr hat)
               clear SS; have SS := SZ; clear SZ hown hgr hat QF QG QR x0 x1 x2 x3 y0 y1 y2 y3 z0 z1 z2 z3 hlQ hlF hlG; have QF := SS.box BFo hn1 hn2; have QG := SS.box BGo hn3 hn4; have QR := SS.box BRo hn5 hn6; obtain ⟨⟨x0, x1⟩, x2, x3⟩ := QF.cells2; obtain ⟨⟨y0, y1⟩, y2, y3⟩ := QG.cells2; obtain ⟨⟨z0, z1⟩, z2, z3⟩ := QR.cells2; have hlQ := QR.lt; have hlF := QF.lt; have hlG := QG.lt)
            | (refine step_append_lies _ (by rfl) _ _ _ (by rfl) w3.heap.size 3 ii _ 1 8 Tryz.underlying30 hii hzi0 hzi1 hzi2 rfl (by decide) (.slice (some ⟨gc, 0, none⟩) c.length kc) c.length (c.map (Value.int .i64)) (by rfl) (by first | with_reducible exact (SS).r2 | with_reducible exact (SS.alloc10).r2 | with_reducible exact (SS.alloc10.drew).r2 | with_reducible exact (SS.drew).r2 | with_reducible exact (SS.drew.alloc10).r2)
                 ⟨gd, 0, none⟩ d.length kd ((d.map (Venn.sh l.length)).map (Value.int .i64)) (by rfl) HLD.out (by first | with_reducible exact (SS).src HRD.out hd1 hd2 | with_reducible exact (SS.alloc10).src HRD.out hd1 hd2 | with_reducible exact (SS.alloc10.drew).src HRD.out hd1 hd2 | with_reducible exact (SS.drew).src HRD.out hd1 hd2 | with_reducible exact (SS.drew.alloc10).src HRD.out hd1 hd2) HOD.out hd0 hqB1 hqB2 (by first | with_reducible exact Nat.le_trans hSL (SS).but.size | with_reducible exact Nat.le_trans hSL (SS.alloc10).but.size | with_reducible exact Nat.le_trans hSL (SS.alloc10.drew).but.size | with_reducible exact Nat.le_trans hSL (SS.drew).but.size | with_reducible exact Nat.le_trans hSL (SS.drew.alloc10).but.size) _ rfl ?_
               intro g2 k2 WW hown hgr hat hltW
               have hFirst := True.intro
               first | (with_reducible have SZ := (SS).grow2 hown hgr hat) | (with_reducible have SZ := (SS.alloc10).grow2 hown hgr hat) | (with_reducible have SZ := (SS.alloc10.drew).grow2 hown hgr hat) | (with_reducible have SZ := (SS.drew).grow2 hown hgr hat) | (with_reducible have SZ := (SS.drew.alloc10).grow2 hown hgr hat)
               clear SS; have SS := SZ; clear SZ hown hgr hat QF QG QR x0 x1 x2 x3 y0 y1 y2 y3 z0 z1 z2 z3 hlQ hlF hlG; have QF := SS.box BFo hn1 hn2; have QG := SS.box BGo hn3 hn4; have QR := SS.box BRo hn5 hn6; obtain ⟨⟨x0, x1⟩, x2, x3⟩ := QF.cells2; obtain ⟨⟨y0, y1⟩, y2, y3⟩ := QG.cells2; obtain ⟨⟨z0, z1⟩, z2, z3⟩ := QR.cells2; have hlQ := QR.lt; have hlF := QF.lt; have hlG := QG.lt))
          all_goals
            have t1 := (HAT.out.gOwn.cRow.lt gd rfl).1
            have t2 := HAT.out.S4
            have t3 := HAT.out.below.size
            have t4 := HBT.out.size
            have hWo : Below w.heap.size w WW := (HAT.out.below.trans (HBT.out.below (B := w.heap.size) t3 (fun b e => by omega))).trans (SS.but.below (B := w.heap.size) (by omega) (fun b e => by omega))
            have GL := below_set2 hWo (show w.heap.size ≤ w.heap.size + 2 by omega) (.slice (some ⟨g1, 0, none⟩) (l.length + m.length) k1) (.slice (some ⟨g3, 0, none⟩) (c.length + d.length + 1) k3)
            have GS := QR.set2 (.slice (some ⟨g1, 0, none⟩) (l.length + m.length) k1) (.slice (some ⟨g3, 0, none⟩) (c.length + d.length + 1) k3)
            have GB : But (fun b => (b = ga ∨ b = gc) ∨ b < w3.heap.size) wo ((WW.setCell ⟨w.heap.size + 2, 0, none⟩ (.slice (some ⟨g1, 0, none⟩) (l.length + m.length) k1)).setCell ⟨w.heap.size + 2, 1, none⟩ (.slice (some ⟨g3, 0, none⟩) (c.length + d.length + 1) k3)) := ((SS.but.wide fun _ e => .inl e).set_ (p := ⟨w.heap.size + 2, 0, none⟩) (.inr (by show w.heap.size + 2 < w3.heap.size; omega)) _).set_ (p := ⟨w.heap.size + 2, 1, none⟩) (.inr (by show w.heap.size + 2 < w3.heap.size; omega)) _
            have GK := HAT.out.ok HBT.out GB
            have GC : But (fun b => b = w.heap.size + 2) WW ((WW.setCell ⟨w.heap.size + 2, 0, none⟩ (.slice (some ⟨g1, 0, none⟩) (l.length + m.length) k1)).setCell ⟨w.heap.size + 2, 1, none⟩ (.slice (some ⟨g3, 0, none⟩) (c.length + d.length + 1) k3)) := ((But.refl (fun b => b = w.heap.size + 2) WW).set_ (p := ⟨w.heap.size + 2, 0, none⟩) rfl _).set_ (p := ⟨w.heap.size + 2, 1, none⟩) rfl _
            have G1 := own_but SS.r1 GC (fun b e hC => by have := (SS.r1.lt b e).1; omega)
            have G2 := own_but SS.r2 GC (fun b e hC => by have := (SS.r2.lt b e).1; omega)
            have HPQ := Lib.hid (And.intro HAT.out.pl HAT.out.ql)
            have GA := atoms_of_own (p := p ++ q) (by rw [aCells_app]; exact G1) GK
            rw [List.map_append, HPQ.out.1, HPQ.out.2] at GA
            have GI := IsInts.of_own (l := c ++ d.map (Venn.sh l.length) ++ [10]) (by rw [List.map_append, List.map_append]; exact G2)
            have HGG := Lib.hid (And.intro GS (And.intro GL (And.intro GA GI)))
            clear HAT HBT SS QF QG QR BFo BGo BRo x0 x1 x2 x3 y0 y1 y2 y3 z0 z1 z2 z3 hBD GL GS GK G1 G2 GA GI GB GC hWo HPQ
            go_wp2
            go_meet
            case rel => exact ⟨rfl, g1, k1, g3, k3, HGG.out⟩
        case rest =>
          obtain ⟨rfl, g1, k1, g3, k3, GS, GL, GA, GI⟩ := hcut
          have HGG := Lib.hid (And.intro GL (And.intro GA GI))
          clear HAT HBT SS QF QG QR BFo BGo BRo x0 x1 x2 x3 y0 y1 y2 y3 z0 z1 z2 z3 hBD GL GA GI
          go_wp2
          obtain ⟨⟨e0, e1⟩, _⟩ := GS.cells2
          refine bodyPost_ret (v := .tuple #[.agg #[(.slice (some ⟨g1, 0, none⟩) (l.length + m.length) k1), (.slice (some ⟨g3, 0, none⟩) (c.length + d.length + 1) k3)], .nilIface]) (by simp [results, Tryz.results13, go_sem, e0, e1]) rfl ?_
          rw [HVV.out, HEE.out]
          have hlen : (c ++ d.map (Venn.sh l.length) ++ [10]).length = c.length + d.length + 1 := by simp [Nat.add_assoc]
          have hlen2 : (l ++ m).length = l.length + m.length := List.length_append
          refine ⟨some ⟨g1, 0, none⟩, k1, some ⟨g3, 0, none⟩, k3, ?_, HGG.out.1, ?_, ?_⟩
          · show _ = Ending.returned (.tuple #[.agg #[.slice _ (l ++ m).length k1, .slice _ (c ++ d.map (Venn.sh l.length) ++ [10]).length k3], errV 0])
            rw [hlen, hlen2]
            rfl
          · show IsAtoms wc (.slice _ (l ++ m).length k1) (l ++ m)
            rw [hlen2]
            exact HGG.out.2.1
          · show IsInts wc (.slice _ (c ++ d.map (Venn.sh l.length) ++ [10]).length k3) (c ++ d.map (Venn.sh l.length) ++ [10])
            rw [hlen]
            exact HGG.out.2.2
end Go.Proofs.YtjnjgcibhjdmdaaGreatDoor

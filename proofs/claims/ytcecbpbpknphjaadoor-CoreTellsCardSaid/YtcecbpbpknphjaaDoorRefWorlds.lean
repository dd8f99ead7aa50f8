/-
  THE WALKS of the reference's Worlds, So, Open, Forms, Answer, Ask.
-/
import Derived.Test.YtcecbpbpknphjaaDoorRefAll
import Derived.Test.YtcecbpbpknphjaaDoorRefMade
import Derived.Test.YtcecbpbpknphjaaDoorRefForm
import Derived.Test.YtcecbpbpknphjaaDoorRefTrue
import Derived.Test.YtcecbpbpknphjaaDoorFormsA
import Derived.Test.YtcecbpbpknphjaaDoorVennTells
namespace Go.Proofs.YtcecbpbpknphjaaDoor
open Go.RowKit

/-! ### worlds in memory -/
theorem rdBlk {w : World} {g : Nat} {t : TypeId} {cs : Array Value} (h : Blk w g t cs) : Rd w (some ⟨g, 0, none⟩) cs.toList := fun j u hj => by
  refine ⟨_, rfl, ?_⟩
  have hadd : (⟨g, 0, none⟩ : Addr).add j = ⟨g, j, none⟩ := by unfold Addr.add; split <;> simp_all
  rw [hadd, h.cell j]
  simpa using hj
def wCells : List Venn.World → List Value
  | [] => []
  | W :: l => .int .i64 W.things :: .int .i64 W.a :: .int .i64 W.b :: .int .i64 W.c :: wCells l
theorem wCells_len : ∀ l : List Venn.World, (wCells l).length = l.length * 4 := by
  intro l
  induction l with
  | nil => rfl
  | cons W l ih => simp only [wCells, List.length_cons, ih]; omega
theorem wCells_app : ∀ l m : List Venn.World, wCells (l ++ m) = wCells l ++ wCells m := by
  intro l
  induction l with
  | nil => intro m; rfl
  | cons W l ih => intro m; simp only [List.cons_append, wCells, ih]
theorem wCells_at : ∀ (l : List Venn.World) (k : Nat) (W : Venn.World), l[k]? = some W →
    (wCells l)[k * 4]? = some (.int .i64 W.things) ∧ (wCells l)[k * 4 + 1]? = some (.int .i64 W.a) ∧ (wCells l)[k * 4 + 2]? = some (.int .i64 W.b) ∧ (wCells l)[k * 4 + 3]? = some (.int .i64 W.c) := by
  intro l
  induction l with
  | nil => intro k W h; simp at h
  | cons V l ih =>
    intro k W h
    rcases k with _ | k
    · simp only [List.getElem?_cons_zero, Option.some.injEq] at h
      subst h
      exact ⟨rfl, rfl, rfl, rfl⟩
    · have := ih k W (by simpa using h)
      rw [show (k + 1) * 4 = k * 4 + 4 by omega]
      simp only [wCells]
      exact this
theorem wCells_one : ∀ (l : List Venn.World), ∀ u ∈ wCells l, u.oneCell' = true := by
  intro l
  induction l with
  | nil => intro u h; cases h
  | cons W l ih =>
    intro u h
    simp only [wCells, List.mem_cons] at h
    rcases h with rfl | rfl | rfl | rfl | h
    · rfl
    · rfl
    · rfl
    · rfl
    · exact ih u h
theorem world_info : (Tryd.prog.info? 28).map (fun i => (i.zero, i.size, i.bytes)) = some (some (.agg #[.int .i64 0, .int .i64 0, .int .i64 0, .int .i64 0]), 4, 32) := by kernel_rfl
set_option maxRecDepth 100000 in
theorem wpList_appW {ops : Array Oper} {rest : List Oper} {o : Oper} {a : Act} {Q : Exit → Act → World → Prop} (w : World) (hgd : o.guard = none) (s x : Operand)
    (ho : o.op = .call { callee := .builtin .append, args := #[s, x], argTypes := #[106, 106] })
    (base : Nat) (v : Value) (n : Nat) (xs : List Value) (hs : a.eval s = v) (hown : w.ownsRow base 28 4 v n xs)
    (ad : Addr) (c : Nat) (p : List Venn.World) (hx : a.eval x = .slice (some ad) p.length c) (hr : Rd w (some ad) (wCells p)) (hn : n + p.length ≤ 100000) (hbase : base ≤ w.heap.size)
    (h : ∀ v' w', w'.ownsRow base 28 4 v' (n + p.length) (xs ++ wCells p) → w.grownBy w' v.ownBlock → wpList Tryd.prog ops Q rest (a.put o.dst v') w') : wpList Tryd.prog ops Q (o :: rest) a w := by
  obtain ⟨i0, hi, hz0, hz1, hz2⟩ := info_parts world_info
  refine wpList_append_own w hgd s x _ ho base _ i0 _ 4 32 Tryd.underlying106 hi hz0 hz1 hz2 rfl (by decide) v n xs hs hown ad p.length c (wCells p) hx (wCells_len p) ?_ (wCells_one p) (by unfold maxLen; omega) (by omega) hbase (fun v' w' h1 h2 _ => h v' w' h1 h2)
  intro j u hj
  obtain ⟨ad', e, hc⟩ := hr j u hj
  cases e
  exact hc
/-- A slice of worlds reads as l. -/
def IsWorlds (w : World) (v : Value) (l : List Venn.World) : Prop :=
  ∃ A c, v = .slice A l.length c ∧ (∀ (k : Nat) (W : Venn.World), l[k]? = some W → ∃ ad, A = some ad ∧ w.cell? (ad.add (k * 4)) = some (.int .i64 W.things) ∧ w.cell? ⟨(ad.add (k * 4)).block, (ad.add (k * 4)).off + 1, none⟩ = some (.int .i64 W.a) ∧
    w.cell? ⟨(ad.add (k * 4)).block, (ad.add (k * 4)).off + 2, none⟩ = some (.int .i64 W.b) ∧ w.cell? ⟨(ad.add (k * 4)).block, (ad.add (k * 4)).off + 3, none⟩ = some (.int .i64 W.c)) ∧ l.length ≤ c ∧ c ≤ maxLen
theorem IsWorlds.keep {w w' : World} {v : Value} {l : List Venn.World} (h : IsWorlds w v l) (hb : Below w.heap.size w w') : IsWorlds w' v l := by
  obtain ⟨A, c, hv, hr, hc⟩ := h
  refine ⟨A, c, hv, fun k a ha => ?_, hc⟩
  obtain ⟨ad, e, h0, h1, h2, h3⟩ := hr k a ha
  exact ⟨ad, e, cell_keep hb h0, cell_keep hb h1, cell_keep hb h2, cell_keep hb h3⟩
theorem IsWorlds.of_own {w : World} {base : Nat} {e : TypeId} {v : Value} {n : Nat} {l : List Venn.World} (h : w.ownsRow base e 4 v n (wCells l)) : IsWorlds w v l := by
  have hn : n = l.length := by have := h.1; rw [wCells_len] at this; omega
  subst hn
  rcases h.2 with ⟨rfl, hl⟩ | ⟨g, cap, cur, rfl, _, hh, hnc, hcm, hcs, ht⟩
  · have : l = [] := List.eq_nil_of_length_eq_zero hl
    subst this
    exact ⟨none, 0, rfl, fun k W hk => by simp at hk, Nat.le_refl _, by simp⟩
  · refine ⟨_, _, rfl, fun k W hk => ⟨_, rfl, ?_⟩, hnc, hcm⟩
    obtain ⟨c0, c1, c2, c3⟩ := wCells_at l k W hk
    have g0 := h.cells (g := g) rfl _ _ c0
    have g1 := h.cells (g := g) rfl _ _ c1
    have g2 := h.cells (g := g) rfl _ _ c2
    have g3 := h.cells (g := g) rfl _ _ c3
    rw [adr_add _ _ _ (by decide)] at g1 g2 g3
    exact ⟨g0, g1, g2, g3⟩
theorem f8_get : ∀ (l : List (List Int)) (k j : Nat) (x : List Int) (y : Int), (∀ r ∈ l, r.length = 8) → l[k]? = some x → x[j]? = some y → (flat8 l)[k * 8 + j]? = some (.int .i64 y) := by
  intro l
  induction l with
  | nil => intro k j x y _ h; simp at h
  | cons r l ih =>
    intro k j x y h hx hy
    have hr := h r (by simp)
    rcases k with _ | k
    · simp only [List.getElem?_cons_zero, Option.some.injEq] at hx
      subst hx
      have hj := (List.getElem?_eq_some_iff.1 hy).1
      simp only [flat8, List.flatMap_cons, Nat.zero_mul, Nat.zero_add]
      rw [List.getElem?_append_left (by simpa using hj)]
      simp [hy]
    · have h1 := ih k j x y (fun r hr => h r (List.mem_cons_of_mem _ hr)) (by simpa using hx) hy
      simp only [flat8, List.flatMap_cons]
      rw [List.getElem?_append_right (by simp; omega)]
      simp only [List.length_map, hr]
      rw [show (k + 1) * 8 + j - 8 = k * 8 + j by omega]
      exact h1
theorem own_eight {w : World} {base e n c : Nat} {ad : Option Addr} {l : List (List Int)} {k : Nat} {a0 a1 a2 a3 a4 a5 a6 a7 : Int} (h : w.ownsRow base e 8 (.slice ad n c) n (flat8 l)) (h8 : ∀ r ∈ l, r.length = 8) (hx : l[k]? = some [a0, a1, a2, a3, a4, a5, a6, a7]) :
    ∃ ga : Addr, ad = some ga ∧ w.cell? (ga.add (k * 8)) = some (.int .i64 a0) ∧ w.cell? ⟨(ga.add (k * 8)).block, (ga.add (k * 8)).off + 1, none⟩ = some (.int .i64 a1) ∧ w.cell? ⟨(ga.add (k * 8)).block, (ga.add (k * 8)).off + 2, none⟩ = some (.int .i64 a2) ∧
      w.cell? ⟨(ga.add (k * 8)).block, (ga.add (k * 8)).off + 3, none⟩ = some (.int .i64 a3) ∧ w.cell? ⟨(ga.add (k * 8)).block, (ga.add (k * 8)).off + 4, none⟩ = some (.int .i64 a4) ∧ w.cell? ⟨(ga.add (k * 8)).block, (ga.add (k * 8)).off + 5, none⟩ = some (.int .i64 a5) ∧
      w.cell? ⟨(ga.add (k * 8)).block, (ga.add (k * 8)).off + 6, none⟩ = some (.int .i64 a6) ∧ w.cell? ⟨(ga.add (k * 8)).block, (ga.add (k * 8)).off + 7, none⟩ = some (.int .i64 a7) := by
  rcases h.2 with ⟨hv, hn⟩ | ⟨g, cap, cur, hv, _⟩
  · exfalso
    have h1 := h.1
    subst hn
    have h2 : (flat8 l)[k * 8 + 0]? = some (.int .i64 a0) := f8_get l k 0 _ a0 h8 hx rfl
    have := (List.getElem?_eq_some_iff.1 h2).1
    omega
  · simp only [Value.slice.injEq] at hv
    obtain ⟨rfl, _, rfl⟩ := hv
    have hc : ∀ j y, ([a0, a1, a2, a3, a4, a5, a6, a7] : List Int)[j]? = some y → w.cell? (((⟨g, 0, none⟩ : Addr).add (k * 8)).add j) = some (.int .i64 y) := fun j y hy => by
      rw [add_of_add]
      exact h.cells (g := g) rfl _ _ (f8_get l k j _ y h8 hx hy)
    exact ⟨⟨g, 0, none⟩, rfl, hc 0 a0 rfl, hc 1 a1 rfl, hc 2 a2 rfl, hc 3 a3 rfl, hc 4 a4 rfl, hc 5 a5 rfl, hc 6 a6 rfl, hc 7 a7 rfl⟩
theorem allC_parts {u : Int} (hu : Venn.things u = true) {x : List Int} (hx : x ∈ Venn.allC u) : ∃ a0 a1 a2 a3 a4 a5 a6 a7, x = [a0, a1, a2, a3, a4, a5, a6, a7] ∧ (∀ y ∈ [a0, a1, a2, a3, a4, a5, a6, a7], 0 ≤ y) ∧ [a0, a1, a2, a3, a4, a5, a6, a7].sum = u := by
  obtain ⟨h8, hp, hs⟩ := (Venn.mem_allC hu x).1 hx
  match x, h8 with
  | [a0, a1, a2, a3, a4, a5, a6, a7], _ => exact ⟨a0, a1, a2, a3, a4, a5, a6, a7, rfl, hp, hs⟩
theorem allC_len2 {u : Int} (hu : 0 ≤ u ∧ u ≤ 6) : (Venn.allC u).length ≤ 90000 := by
  have : ∀ u : Fin 7, (Venn.allG 7 u.val).length ≤ 90000 := by decide +kernel
  have h := this ⟨u.toNat, by omega⟩
  simpa [Venn.allC] using h

set_option maxHeartbeats 4000000 in
set_option maxRecDepth 100000 in
theorem ref_Worlds (u : Int) (w : World) (hu : Venn.things u = true) :
    Calls Tryd.prog 66 #[.int .i64 u] w (fun e w' => ∃ v, e = .returned v ∧ Below w.heap.size w w' ∧ w'.ownsRow w.heap.size 28 4 v (Venn.allC u).length (wCells ((Venn.allC u).map Venn.made))) := by
  have hu6 := hu
  simp only [Venn.things, Bool.and_eq_true, decide_eq_true_eq] at hu6
  have HLEN := Lib.hid (allC_len2 hu6)
  have HP := Lib.hid (fun x => allC_parts hu (x := x))
  have HA := Lib.hid (fun W => ref_All u W hu6)
  have H8 := Lib.hid (show ∀ r ∈ Venn.allC u, r.length = 8 from fun r hr => ((Venn.mem_allC hu r).1 hr).1)
  generalize Venn.allC u = LL at HLEN HP HA H8 ⊢
  clear hu
  go_enter Tryd.func66, Tryd.ntmps66
  go_wp2_with fail
  refine (HA.out _).mono ?_
  rintro e w1 ⟨v1, rfl, hb1, O1⟩
  obtain ⟨V1, c1, rfl⟩ := ownsRow_slice O1
  have HO := Lib.hid O1
  have HL := Lib.hid (show LL.length ≤ 90000 from HLEN.out)
  have hlen := HLEN.out
  clear O1
  go_wp2
  go_loopw [4, 5] (fun o i wr => ∃ k : Nat, k ≤ LL.length ∧ i = .int .i64 k ∧ Below w.heap.size w wr ∧ Below w1.heap.size w1 wr ∧ wr.ownsRow w1.heap.size 28 4 o k (wCells ((LL.take k).map Venn.made))) (fun _ i _ => LL.length - (intOf i).toNat)
  case atStart => exact ⟨0, Nat.zero_le _, rfl, hb1, Below.refl _ _, by rw [List.take_zero]; exact World.ownsRow_nil _ _ _ _⟩
  case round =>
    obtain ⟨k, hk, rfl, hb, hb1', hown⟩ := hrel
    obtain ⟨wo, rfl⟩ : ∃ wo : World, wo = wr := ⟨_, rfl⟩
    obtain ⟨V2, c2, rfl⟩ := ownsRow_slice hown
    have HW := Lib.hid hown
    clear hown
    by_cases hlt : k < LL.length
    · have hk1 : (k : Int) < (LL.length : Int) := by omega
      have hk0 : (0 : Int) ≤ (k : Int) := by omega
      have hx := List.getElem?_eq_getElem hlt
      obtain ⟨a0, a1, a2, a3, a4, a5, a6, a7, hxe, hp, hs⟩ := HP.out LL[k] (List.getElem_mem hlt)
      have HT := Lib.hid (show (LL.take (k + 1)).map Venn.made = (LL.take k).map Venn.made ++ [Venn.made [a0, a1, a2, a3, a4, a5, a6, a7]] by rw [List.take_succ_eq_append_getElem hlt, List.map_append, hxe]; rfl)
      rw [hxe] at hx
      obtain ⟨g, rfl, d0, d1, d2, d3, d4, d5, d6, d7⟩ := own_eight HO.out H8.out hx
      replace d0 := cell_keep hb1' d0
      replace d1 := cell_keep hb1' d1
      replace d2 := cell_keep hb1' d2
      replace d3 := cell_keep hb1' d3
      replace d4 := cell_keep hb1' d4
      replace d5 := cell_keep hb1' d5
      replace d6 := cell_keep hb1' d6
      replace d7 := cell_keep hb1' d7
      have HM := Lib.hid (fun W => ref_Made a0 a1 a2 a3 a4 a5 a6 a7 W hp (by rw [hs]; exact hu6.2))
      clear hx hxe hp hs
      generalize Venn.made [a0, a1, a2, a3, a4, a5, a6, a7] = X at HM HT
      obtain ⟨th, a, b, c⟩ := X
      go_wp2_with fail
      refine (HM.out _).mono ?_
      rintro e w2 ⟨rfl, hb2⟩
      have hw2 := HW.out
      go_upto_region 7 with (fail)
      have BX := Blk.new w2 28 #[.int .i64 th, .int .i64 a, .int .i64 b, .int .i64 c]
      obtain ⟨c0, c1', c2', c3⟩ := BX.cells4
      have hsz := hb2.size
      have hsz0 := hb1'.size
      have HR := Lib.hid (show Rd ((w2.alloc (.cells #[.int .i64 th, .int .i64 a, .int .i64 b, .int .i64 c] 28)).alloc (.cells #[.int .i64 th, .int .i64 a, .int .i64 b, .int .i64 c] 28)) (some ⟨w2.heap.size + 1, 0, none⟩) (wCells [⟨th, a, b, c⟩]) from rdBlk (Blk.newAt (by simp) _ _))
      have HOW := Lib.hid ((((own_below HW.out hb2).alloc (.cells #[.int .i64 th, .int .i64 a, .int .i64 b, .int .i64 c] 28)).alloc (.cells #[.int .i64 th, .int .i64 a, .int .i64 b, .int .i64 c] 28)))
      clear d0 d1 d2 d3 d4 d5 d6 d7 hw2
      go_wp2_with (at_builtin; refine wpList_appW _ rfl _ _ rfl w1.heap.size _ k _ rfl HOW.out ⟨w2.heap.size + 1, 0, none⟩ 1 [⟨th, a, b, c⟩] rfl HR.out (by simp; omega) (by simp; omega) ?_)
      intro v3 w3 hown3 hg3
      have hl3 : Below w1.heap.size w1 w3 := (((Below.next hb1' hb2).alloc (by have := (Below.next hb1' hb2).size; omega) _).alloc (by have := (Below.next hb1' hb2).size; simp; omega) _).grown hg3 (by simp; omega) (fun g hg => (HW.out.lt g hg).1)
      have hl3' : Below w.heap.size w w3 := Below.next hb1 hl3
      go_wp2
      go_roundw
      case rel => exact ⟨k + 1, by omega, by go_num, hl3', hl3, by rw [HT.out, wCells_app]; simpa using hown3⟩
      case measure => simp [intOf]; omega
    · have hk' : k = LL.length := by omega
      subst hk'
      have HWW := Lib.hid (own_base HW.out (show w.heap.size ≤ w1.heap.size from hb1.size))
      rw [List.take_length] at HWW
      go_wp2
      go_ret
      exact ⟨_, rfl, hb, HWW.out⟩
end Go.Proofs.YtcecbpbpknphjaaDoor

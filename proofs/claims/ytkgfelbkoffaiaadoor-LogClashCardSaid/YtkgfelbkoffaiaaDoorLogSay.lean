/-
  THE WALKS of log.Say and log.All.
-/
import Derived.Test.YtkgfelbkoffaiaaDoorLogA
namespace Go.Proofs.YtkgfelbkoffaiaaDoor
open Go.RowKit

theorem clone_any (A : Option Addr) (c : Nat) (p : List FV) (w : World) (hr : Rd w A (fCells p)) (ho : FOk w p) (hl : p.length ≤ 100) :
    Calls Tryd.prog 40 #[.slice A p.length c] w (fun e w' => ∃ v', e = .returned v' ∧ Below w.heap.size w w' ∧ w'.ownsRow w.heap.size 43 2 v' p.length (fCells p)) := by
  cases A with
  | some ad =>
    refine (clone_forms ad c p w hr ho hl).mono ?_
    rintro e w' ⟨v', rfl, hb, hown⟩
    exact ⟨v', rfl, hb, hown⟩
  | none =>
    have hnil : p = [] := by
      cases p with
      | nil => rfl
      | cons x r =>
        obtain ⟨_, e, _⟩ := hr 0 x.2.1 (by simp [fCells])
        cases e
    subst hnil
    refine (clone_forms_none c w).mono ?_
    rintro e w' ⟨rfl, hb⟩
    exact ⟨_, rfl, hb, World.ownsRow_nil _ _ _ _⟩
/-- One step of a region that draws its order: a form is appended to a row of the call's own. -/
theorem step_appF1 {ops : Array Oper} {o : Oper} {a : Act} {K : Act → World → Prop} {Q : Exit → Act → World → Prop} {E : Prop} (w : World) (hgd : o.guard = none) (s x : Operand)
    (ho : o.op = .call { callee := .builtin .append, args := #[s, x], argTypes := #[55, 55] })
    (base : Nat) (v : Value) (n : Nat) (xs : List Value) (hs : a.eval s = v) (hown : w.ownsRow base 43 2 v n xs)
    (g c : Nat) (f : FV) (hx : a.eval x = .slice (some ⟨g, 0, none⟩) 1 c) (hB : Blk w g 43 #[f.2.1, f.2.2]) (hf : FOk w [f]) (hn : n + 1 ≤ 1000) (hbase : base ≤ w.heap.size)
    (h : ∀ g' cap w', w'.ownsRow base 43 2 (.slice (some ⟨g', 0, none⟩) (n + 1) cap) (n + 1) (xs ++ fCells [f]) → w.grownBy w' v.ownBlock → K (a.put o.dst (.slice (some ⟨g', 0, none⟩) (n + 1) cap)) w') :
    if Region.wanted o (yielded ops a.tmps) = true then Oper.wp Tryd.prog o a w K Q else E := by
  obtain ⟨i0, hi, hz0, hz1, hz2⟩ := info_parts form_info
  refine step_append_lies w hgd s x _ ho base _ i0 _ 2 48 Tryd.underlying55 hi hz0 hz1 hz2 rfl (by decide) v n xs hs hown ⟨g, 0, none⟩ 1 c (fCells [f]) hx rfl ?_ (fCells_one hf) (by omega) (by unfold maxLen; omega) (by omega) hbase w.heap.size rfl (fun g' cap w' h1 h2 _ _ => h g' cap w' h1 h2)
  exact World.news_of_block (cs := #[f.2.1, f.2.2]) hB

set_option maxHeartbeats 2000000 in
set_option maxRecDepth 100000 in
/-- log.All: as many formulas. -/
theorem log_All (j : Nat) (u : Int) (ls : List Venn.Form) (bs : ByteArray) (w : World) (h : LogAt w j u ls bs) (hok : ∀ f ∈ ls, Venn.formChk f = 0) (h6 : ls.length ≤ 6) :
    Calls Tryd.prog 19 #[.pointer (some ⟨j, 0, none⟩)] w (fun e w' => ∃ A c, e = .returned (.slice A ls.length c) ∧ Below w.heap.size w w') := by
  obtain ⟨A, c, h1, h2⟩ := h
  obtain ⟨x0, x1, x2, x3, x4, x5⟩ := h1.cells6
  obtain ⟨A', c', p, hv, hp, hr, ho, hc1, hc2⟩ := forms_open h2
  injection hv with hA hn hc
  subst hA hc
  have HPL := Lib.hid hn.symm
  have HR := Lib.hid hr
  have HO := Lib.hid ho
  have HOK := Lib.hid (show ∀ x ∈ p, Venn.formChk x.1 = 0 from fun x hx => hok _ (by rw [← hp]; exact List.mem_map_of_mem hx))
  clear h2 hr ho hok h1 hn hp
  go_enter Tryd.func19, Tryd.ntmps19
  go_wp2
  go_loopw [3, 11] (fun v i wr => ∃ (k : Nat) (xs : List Value), k ≤ ls.length ∧ i = .int .i64 k ∧ wr.ownsRow w.heap.size 43 2 v k xs ∧ Below w.heap.size w wr) (fun _ i _ => ls.length - (intOf i).toNat)
  case atStart => exact ⟨0, [], Nat.zero_le _, rfl, World.ownsRow_nil _ _ _ _, Below.refl _ _⟩
  case round =>
    clear x0 x1 x2 x3 x4 x5
    obtain ⟨k, xs, hk, rfl, hown, hbw⟩ := hrel
    obtain ⟨wo, rfl⟩ : ∃ wo : World, wo = wr := ⟨_, rfl⟩
    obtain ⟨V0, k0, rfl⟩ := ownsRow_slice hown
    have HOW := Lib.hid hown
    clear hown
    by_cases hlt : k < ls.length
    · obtain ⟨⟨⟨fl, fc⟩, fa, fd⟩, hx⟩ : ∃ x : FV, p[k]? = some x := ⟨p[k]'(by have := HPL.out; omega), List.getElem?_eq_getElem _⟩
      obtain ⟨g0, g1⟩ := fCells_at p k _ hx
      obtain ⟨ad2, e2, hd0⟩ := HR.out _ _ g0
      obtain ⟨ad3, e3, hd1⟩ := HR.out _ _ g1
      subst e2
      cases e3
      rw [adr_add _ _ _ (by decide)] at hd1
      obtain ⟨hfa, hfd⟩ := HO.out _ (List.mem_of_getElem? hx)
      have hfk := HOK.out _ (List.mem_of_getElem? hx)
      simp only at hd0 hd1 hfa hfd hfk
      have d0 := cell_keep hbw hd0
      have d1 := cell_keep hbw hd1
      have HFO := Lib.hid (fun W (hW : Below wo.heap.size wo W) => form_Own _ _ fl fc W ((hfa.keep hbw).keep hW) ((hfd.keep hbw).keep hW) hfk)
      obtain ⟨FA, fA, rfl⟩ := hfa.slice
      obtain ⟨FD, fD, rfl⟩ := hfd.slice
      have hk1 : (k : Int) < (ls.length : Int) := by omega
      have hk0 : (0 : Int) ≤ (k : Int) := by omega
      have hki : IntKind.i64.wrap ((k : Int) + 1) = (k : Int) + 1 := IntWalk.i64_in _ (by omega)
      have hal : Below wo.heap.size wo (wo.alloc (.cells #[.slice FA fl.length fA, .slice FD fc.length fD] 43)) := by have w := wo; (repeat' (first | (with_reducible exact Below.refl _ _) | (with_reducible assumption) | (with_reducible refine Below.next ?_ (by with_reducible assumption)) | (with_reducible refine Below.drew ?_) | (with_reducible refine Below.laid ?_ _) | (with_reducible refine Below.setCell ?_ ?_ _) | (with_reducible refine size_of ?_) | (with_reducible refine Nat.le_succ_of_le ?_) | go_size))
      clear hd0 hd1 hx g0 g1 hfk
      go_wp2_with fail
      refine (HFO.out _ hal).mono ?_
      rintro e w2 ⟨q, ga, ka, gc, kc, rfl, hb2, hql, HQ⟩
      have hb02 := Below.next hal hb2
      have BN := Blk.new w2 43 #[.slice (some ⟨ga, 0, none⟩) fl.length ka, .slice (some ⟨gc, 0, none⟩) fc.length kc]
      have hal2 : Below w2.heap.size w2 (w2.alloc (.cells #[.slice (some ⟨ga, 0, none⟩) fl.length ka, .slice (some ⟨gc, 0, none⟩) fc.length kc] 43)) := by have w := w2; (repeat' (first | (with_reducible exact Below.refl _ _) | (with_reducible assumption) | (with_reducible refine Below.next ?_ (by with_reducible assumption)) | (with_reducible refine Below.drew ?_) | (with_reducible refine Below.laid ?_ _) | (with_reducible refine Below.setCell ?_ ?_ _) | (with_reducible refine size_of ?_) | (with_reducible refine Nat.le_succ_of_le ?_) | go_size))
      have hb03 := Below.next hb02 hal2
      have hf2 : FOk (w2.alloc (.cells #[.slice (some ⟨ga, 0, none⟩) fl.length ka, .slice (some ⟨gc, 0, none⟩) fc.length kc] 43)) [((⟨fl, fc⟩ : Venn.Form), .slice (some ⟨ga, 0, none⟩) fl.length ka, .slice (some ⟨gc, 0, none⟩) fc.length kc)] := fun x hx => by
        rw [List.mem_singleton.1 hx]
        have := HQ.isAtoms
        rw [hql] at this
        exact ⟨this.keep hal2, HQ.isInts.keep hal2⟩
      have hown2 := own_kept HOW.out hb03
      have hbase : w.heap.size ≤ (w2.alloc (.cells #[.slice (some ⟨ga, 0, none⟩) fl.length ka, .slice (some ⟨gc, 0, none⟩) fc.length kc] 43)).heap.size := (Below.next hbw hb03).size
      clear HQ hql d0 d1
      go_wp2_with (at_builtin; refine wpList_appF _ rfl _ _ rfl w.heap.size _ k _ rfl hown2 ⟨w2.heap.size, 0, none⟩ 1 [((⟨fl, fc⟩ : Venn.Form), .slice (some ⟨ga, 0, none⟩) fl.length ka, .slice (some ⟨gc, 0, none⟩) fc.length kc)] (by simp [go_sem]) (by
        intro i z hz
        exact ⟨_, rfl, World.news_of_block (cs := #[.slice (some ⟨ga, 0, none⟩) fl.length ka, .slice (some ⟨gc, 0, none⟩) fc.length kc]) BN i z hz⟩) hf2 (by simp; omega) hbase ?_)
      intro v' w4 hown4 hg4
      have hbel := (Below.next hbw hb03).grown hg4 hbase (fun b e => (HOW.out.lt b e).1)
      have HO4 := Lib.hid hown4
      clear hown4 hg4 hf2 hown2 BN
      go_wp2
      go_roundw
      case rel => exact ⟨k + 1, _, by omega, by go_num, HO4.out, hbel⟩
      case measure => simp [intOf]; omega
    · have hk' : k = ls.length := by omega
      subst hk'
      go_wp2
      go_ret
      exact ⟨V0, k0, rfl, hbw⟩
end Go.Proofs.YtkgfelbkoffaiaaDoor

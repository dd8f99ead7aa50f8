/-
  THE WALK of log.Say, with steps that fail. (Written by gen_logg.py.)
-/
import Derived.Test.YtjnjgcibhjdmdaaGreatDoorLogG
import Derived.Test.YtjnjgcibhjdmdaaGreatDoorVennKeep
import Derived.Laws.Concat
import Derived.Deep.QuietTactic
import Derived.BigQuiet
import Derived.BigRegion
namespace Go.Proofs.YtjnjgcibhjdmdaaGreatDoor
open Go.RowKit

theorem clone_anyG (A : Option Addr) (c : Nat) (p : List FV) (w : World) (hr : Rd w A (fCells p)) (ho : FOk w p) (hl : p.length ≤ 100) :
    Calls Tryz.prog 26 #[.slice A p.length c] w (fun e w' => ∃ v', e = .returned v' ∧ Below w.heap.size w w' ∧ w'.ownsRow w.heap.size 38 2 v' p.length (fCells p)) := by
  cases A with
  | some ad =>
    refine (clone_forms ad c p w hr ho hl).mono ?_
    rintro e w' ⟨v', rfl, hb, hown⟩
    exact ⟨v', rfl, hb, hown⟩
  | none =>
    have hnil : p = [] := by
      cases p with
      | nil => rfl
      | cons x r =>
        obtain ⟨_, e, _⟩ := hr 0 x.2.1 (by simp [fCells])
        cases e
    subst hnil
    refine (clone_forms_none c w).mono ?_
    rintro e w' ⟨rfl, hb⟩
    exact ⟨_, rfl, hb, World.ownsRow_nil _ _ _ _⟩
theorem own_cap {w : World} {base : Nat} {e : TypeId} {size : Nat} {g n cap m : Nat} {xs : List Value} (h : w.ownsRow base e size (.slice (some ⟨g, 0, none⟩) n cap) m xs) : m ≤ cap ∧ cap ≤ maxLen := by
  rcases h.2 with ⟨h1, _⟩ | ⟨g', cap', cur, h1, _, _, hnc, hcm, _⟩
  · cases h1
  · injection h1 with _ h2 h3
    omega
/-- One step of a region that draws its order: a form is appended to a row of the call's own. -/
theorem step_appG {ops : Array Oper} {o : Oper} {a : Act} {K : Act → World → Prop} {Q : Exit → Act → World → Prop} {E : Prop} (w : World) (hgd : o.guard = none) (s x : Operand)
    (ho : o.op = .call { callee := .builtin .append, args := #[s, x], argTypes := #[35, 35] })
    (base : Nat) (v : Value) (n : Nat) (xs : List Value) (hs : a.eval s = v) (hown : w.ownsRow base 38 2 v n xs)
    (g c : Nat) (f : FV) (hx : a.eval x = .slice (some ⟨g, 0, none⟩) 1 c) (hB : Blk w g 38 #[f.2.1, f.2.2]) (hf : FOk w [f]) (hn : n + 1 ≤ 1000) (hbase : base ≤ w.heap.size)
    (h : ∀ g' cap w', w'.ownsRow base 38 2 (.slice (some ⟨g', 0, none⟩) (n + 1) cap) (n + 1) (xs ++ fCells [f]) → cap ≤ maxLen → n + 1 ≤ cap → w.grownBy w' v.ownBlock → K (a.put o.dst (.slice (some ⟨g', 0, none⟩) (n + 1) cap)) w') :
    if Region.wanted o (yielded ops a.tmps) = true then Oper.wp Tryz.prog o a w K Q else E := by
  obtain ⟨i0, hi, hz0, hz1, hz2⟩ := info_parts form_infoK
  refine step_append_lies w hgd s x _ ho base _ i0 _ 2 48 Tryz.underlying35 hi hz0 hz1 hz2 rfl (by decide) v n xs hs hown ⟨g, 0, none⟩ 1 c (fCells [f]) hx rfl ?_ (fCells_one hf) (by omega) (by unfold maxLen; omega) (by omega) hbase w.heap.size rfl (fun g' cap w' h1 h2 _ _ => h g' cap w' h1 (own_cap h1).2 (own_cap h1).1 h2)
  exact World.news_of_block (cs := #[f.2.1, f.2.2]) hB
theorem fok_oneG {w : World} {f : Venn.Form} {sa sc : Value} (h : IsAtoms w sa f.atoms ∧ IsInts w sc f.code) : FOk w [(f, sa, sc)] := fun x hx => by
  rw [List.mem_singleton.1 hx]
  exact h
theorem fok_appG {w : World} {p q : List FV} (hp : FOk w p) (hq : FOk w q) : FOk w (p ++ q) := fun x hx => by
  rcases List.mem_append.1 hx with h | h
  · exact hp x h
  · exact hq x h
theorem alone_okG {a : Venn.Atom} (h : Venn.atomChk a = 0) (b : Bool) : Venn.formChk (Venn.aloneF a b) = 0 := by
  cases b
  · unfold Venn.aloneF Venn.formChk
    simp [Venn.atomsChk, h]
    decide
  · exact alone_chk h
/-- What is wrong with one more that is said. -/
def sayE (a : Venn.Atom) (holds : Bool) (u : Int) (ls : List Venn.Form) : Int :=
  if Venn.atomChk a ≠ 0 then Venn.atomChk a else if 6 ≤ ls.length then 4 else if Venn.openV (ls ++ [Venn.aloneF a holds]) u = true then 0 else 7
/-- A record, and half of it. -/
def recBA (a : Venn.Atom) (h : Bool) : ByteArray := ⟨(recB (a, h)).toArray⟩
def halfBA (a : Venn.Atom) (h : Bool) : ByteArray := (recBA a h).extract 0 ((recBA a h).size / 2)
def SayC (C : Nat → Prop) (a : Venn.Atom) (holds : Bool) (j : Nat) (u : Int) (ls : List Venn.Form) (bs : ByteArray) (safe : Nat) (left : Int) (w : World) (e : Ending) (w' : World) : Prop :=
  ∃ E : Int, e = .returned (errV E) ∧ But (fun b => b = j) w w' ∧
    ((E = sayE a holds u ls ∧ E ≠ 0 ∧ LogC C w' j u ls bs safe left false) ∨
     (sayE a holds u ls = 0 ∧ left = 0 ∧ E = 6 ∧ LogC C w' j u ls (bs ++ halfBA a holds) safe (-1) true) ∨
     (sayE a holds u ls = 0 ∧ left ≠ 0 ∧ E = 0 ∧ LogC C w' j u (ls ++ [Venn.aloneF a holds]) (bs ++ recBA a holds) safe (max (-1) (left - 1)) false))
abbrev SayG (a : Venn.Atom) (holds : Bool) (j : Nat) (u : Int) (ls : List Venn.Form) (bs : ByteArray) (safe : Nat) (left : Int) (w : World) (e : Ending) (w' : World) : Prop := SayC (fun _ => False) a holds j u ls bs safe left w e w'
theorem logG_Say_stopped {C : Nat → Prop} (j : Nat) (u : Int) (ls : List Venn.Form) (bs : ByteArray) (safe : Nat) (left : Int) (what n : Int) (sv tv : Value) (holds : Bool) (w : World) (h : LogC C w j u ls bs safe left true) :
    Calls Tryz.prog 7 #[.pointer (some ⟨j, 0, none⟩), .agg #[.int .i64 what, sv, tv, .int .i64 n], .bool holds] w (Keeps (.iface 59 (.int .i64 6)) w) := by
  have hal : Below w.heap.size w (w.alloc (.cells #[.int .i64 what, sv, tv, .int .i64 n] 32)) := by (repeat' (first | (with_reducible exact Below.refl _ _) | (with_reducible assumption) | (with_reducible refine Below.next ?_ (by with_reducible assumption)) | (with_reducible refine Below.drew ?_) | (with_reducible refine Below.laid ?_ _) | (with_reducible refine Below.setCell ?_ ?_ _) | (with_reducible refine size_of ?_) | (with_reducible refine Nat.le_succ_of_le ?_) | go_size))
  obtain ⟨A, c, p, h1, -, -, -, -⟩ := h
  obtain ⟨x0, x1, x2, x3, x4, x5⟩ := (h1.keep hal).cells6
  have hjl := h1.lt
  go_enter Tryz.func7, Tryz.ntmps7
  go_wp2
  go_ret
  exact ⟨rfl, hal⟩
set_option maxHeartbeats 8000000 in
set_option maxRecDepth 100000 in
theorem logG_SayT {C : Nat → Prop} (j : Nat) (u : Int) (ls : List Venn.Form) (bs : ByteArray) (safe : Nat) (left : Int) (what n : Int) (sv tv : Value) (s t : List Int) (w : World) (h : LogC C w j u ls bs safe left false) (hs : IsInts w sv s) (ht : IsInts w tv t) (hk : KindsOk w) (htab : TabOk w)
    (hok : ∀ f ∈ ls, Venn.formChk f = 0) (hu : Venn.things u = true) (hbs : bs.size ≤ 1073741824) (hlt : -1 ≤ left) (hlm : left ≤ 9223372036854775807) (h100 : ls.length ≤ 90) (hC : ∀ b, C b → b < w.heap.size := by intro b h; exact False.elim h) :
    Calls Tryz.prog 7 #[.pointer (some ⟨j, 0, none⟩), .agg #[.int .i64 what, sv, tv, .int .i64 n], .bool true] w (SayC C ⟨what, s, t, n⟩ true j u ls bs safe left w) := by
  have HCB := Lib.hid hC
  clear hC
  have HS := Lib.hid hs
  have HT := Lib.hid ht
  have HK := Lib.hid hk
  have HTB := Lib.hid htab
  have HBS := Lib.hid hbs
  obtain ⟨L, cL, p, hB, hp, hpc, hcm, hF⟩ := h
  have HF := Lib.hid hF
  have HPM := Lib.hid hp
  have HPC := Lib.hid (And.intro hpc hcm)
  have HPL := Lib.hid (show p.length = ls.length by rw [← hp]; simp)
  have HLT := Lib.hid (And.intro hlt hlm)
  have HSE := Lib.hid (show sayE ⟨what, s, t, n⟩ true u ls = if Venn.atomChk ⟨what, s, t, n⟩ ≠ 0 then Venn.atomChk ⟨what, s, t, n⟩ else if 6 ≤ ls.length then 4 else if Venn.openV (ls ++ [Venn.aloneF ⟨what, s, t, n⟩ true]) u = true then 0 else 7 from rfl)
  clear hp hpc hcm hlt hlm
  obtain ⟨SA, kS, rfl, -⟩ := hs
  obtain ⟨TA, kT, rfl, -⟩ := ht
  have HCH := Lib.hid (fun W (hW : Below w.heap.size w W) => atom_Check what n _ _ s t W (HS.out.keep hW) (HT.out.keep hW) (HK.out.keep hW))
  have hal : Below w.heap.size w (w.alloc (.cells #[.int .i64 what, .slice SA s.length kS, .slice TA t.length kT, .int .i64 n] 32)) := by (repeat' (first | (with_reducible exact Below.refl _ _) | (with_reducible assumption) | (with_reducible refine Below.next ?_ (by with_reducible assumption)) | (with_reducible refine Below.drew ?_) | (with_reducible refine Below.laid ?_ _) | (with_reducible refine Below.setCell ?_ ?_ _) | (with_reducible refine size_of ?_) | (with_reducible refine Nat.le_succ_of_le ?_) | go_size))
  have BA0 := Lib.hid (Blk.new w 32 #[.int .i64 what, .slice SA s.length kS, .slice TA t.length kT, .int .i64 n])
  have BJ0 := Lib.hid (hB.keep hal)
  have hjl := hB.lt
  clear hk htab hF hB hbs
  by_cases hc : Venn.atomChk ⟨what, s, t, n⟩ = 0
  · rw [hc, errV_zero rfl] at HCH
    have HTX := Lib.hid (fun W (hW : Below w.heap.size w W) => atom_Text what n _ _ s t W (HS.out.keep hW) (HT.out.keep hW) (HK.out.keep hW) (HTB.out.keep hW) hc)
    have HAL := Lib.hid (fun W (hW : Below w.heap.size w W) => log_Alone what n _ _ s t true W (HS.out.keep hW) (HT.out.keep hW) hc)
    have HCL := Lib.hid (fun W (hW : Below w.heap.size w W) => clone_anyG L cL p W ((HF.out W (But.of_below hW)).1) ((HF.out W (But.of_below hW)).2) (by have := HPL.out; omega))
    have HCS := Lib.hid (fun v W (hW : Below w.heap.size w W) (h : IsForms W v (ls ++ [Venn.aloneF ⟨what, s, t, n⟩ true])) => core_Some v _ u W h (HK.out.keep hW) (fun f hf => by
      rcases List.mem_append.1 hf with hf | hf
      · exact hok f hf
      · rw [List.mem_singleton.1 hf]; exact alone_okG hc _) hu)
    have HTL := Lib.hid (show (⟨(textA ⟨what, s, t, n⟩).toArray⟩ : ByteArray).size = (textA ⟨what, s, t, n⟩).length by show (textA ⟨what, s, t, n⟩).toArray.size = _; simp)
    have HT84 := Lib.hid (textA_le hc)
    have HRC := Lib.hid (show (⟨#[43]⟩ : ByteArray) ++ (⟨(textA ⟨what, s, t, n⟩).toArray⟩ ++ ⟨#[10]⟩) = recBA ⟨what, s, t, n⟩ true by apply ByteArray.ext; simp [recBA, recB])
    have HHF := Lib.hid (show (recBA ⟨what, s, t, n⟩ true).extract 0 ((recBA ⟨what, s, t, n⟩ true).size / 2) = halfBA ⟨what, s, t, n⟩ true from rfl)
    have HCC := Lib.hid hc
    have HHC := Lib.hid hc
    clear hok hu hc HTB
    by_cases h6 : 6 ≤ ls.length
    · have hl6 : (6 : Int) ≤ (p.length : Int) := by have := HPL.out; omega
      have HV4 := Lib.hid (show sayE ⟨what, s, t, n⟩ true u ls = 4 by rw [HSE.out, if_neg (by rw [HHC.out]; simp), if_pos h6])
      clear h6
      go_enter Tryz.func7, Tryz.ntmps7
      obtain ⟨x0, x1, x2, x3, x4, x5⟩ := BJ0.out.cells6
      obtain ⟨a0, a1, a2, a3⟩ := BA0.out.cells4
      go_wp2_with fail
      refine (HCH.out _ hal).mono ?_
      rintro e w1 ⟨rfl, hb1⟩
      have hq1 := Below.next hal hb1
      have GJ := BJ0.out.keep hb1
      clear x0 x1 x2 x3 x4 x5 a0 a1 a2 a3
      obtain ⟨x0, x1, x2, x3, x4, x5⟩ := GJ.cells6
      go_wp2
      go_ret
      exact ⟨4, by rw [errV_ne (by decide)]; rfl, But.of_below hq1, .inl ⟨HV4.out.symm, by decide, L, cL, p, GJ, HPM.out, HPC.out.1, HPC.out.2, HF.out.keep hq1⟩⟩
    have hl6 : (p.length : Int) < 6 := by have := HPL.out; omega
    have hl6' : ¬ (6 : Int) ≤ (p.length : Int) := by have := HPL.out; omega
    have HSE2 := Lib.hid (show sayE ⟨what, s, t, n⟩ true u ls = if Venn.openV (ls ++ [Venn.aloneF ⟨what, s, t, n⟩ true]) u = true then 0 else 7 by rw [HSE.out, if_neg (by rw [HHC.out]; simp), if_neg h6])
    clear h6
    go_enter Tryz.func7, Tryz.ntmps7
    obtain ⟨x0, x1, x2, x3, x4, x5⟩ := BJ0.out.cells6
    obtain ⟨a0, a1, a2, a3⟩ := BA0.out.cells4
    go_wp2_with fail
    refine (HCH.out _ hal).mono ?_
    rintro e w1 ⟨rfl, hb1⟩
    have hq1 := Below.next hal hb1
    have BJ1 := Lib.hid (BJ0.out.keep hb1)
    have BA1 := Lib.hid (BA0.out.keep hb1)
    clear x0 x1 x2 x3 x4 x5 a0 a1 a2 a3 BJ0 BA0 HCH
    obtain ⟨x0, x1, x2, x3, x4, x5⟩ := BJ1.out.cells6
    go_upto_region 8 with (fail)
    go_cut [8] (fun z wx => ∃ gs cs q, z = .slice (some ⟨gs, 0, none⟩) (p.length + 1) cs ∧ LClC C wx j (some ⟨gs, 0, none⟩) (p ++ [q]) ∧ q.1 = Venn.aloneF ⟨what, s, t, n⟩ true ∧ p.length + 1 ≤ cs ∧ cs ≤ maxLen ∧ Below w1.heap.size w1 wx)
    case first =>
      clear HTX HCS HTL HT84 HBS HSE HSE2 HRC HHF
      have HJL := Lib.hid (show j < w1.heap.size from BJ1.out.lt)
      have HCC1 := Lib.hid (show ∀ b, C b → b < w1.heap.size from fun b h => Nat.lt_of_lt_of_le (HCB.out b h) hq1.size)
      obtain ⟨a0, a1, a2, a3⟩ := BA1.out.cells4
      have hwd := hq1.drew
      have HALd := Lib.hid (HAL.out _ hwd)
      have HCLd := Lib.hid (HCL.out _ hwd)
      have hdd : Below w1.heap.size w1 w1.drew := (Below.refl _ w1).drew
      go_region_law (first
        | (refine step_appG _ (by rfl) (.tmp 31) (.tmp 35) (by rfl) w1.heap.size _ p.length _ (by rfl) HOwn.out w3.heap.size 1 (Venn.aloneF ⟨what, s, t, n⟩ true, .slice FA (Venn.aloneF ⟨what, s, t, n⟩ true).atoms.length fA, .slice FC (Venn.aloneF ⟨what, s, t, n⟩ true).code.length fC) (by simp [go_sem]) HBlk.out HFok.out (by omega) HBase.out ?_; intro gs cs w5 hown5 hcs1 hcs2 hgr5)
        | (have hx := hA1; go_simp; go_at_call 26; refine (HCL.out w2 (Below.next hwd hb2)).mono ?_; rintro e w3 ⟨v2, rfl, hb3, hown⟩
           have BAc := BAa.keep hb3; have BJc := BJa.keep hb3; obtain ⟨q0, q1, q2, q3⟩ := BAc.cells4; obtain ⟨r0, r1, r2, r3, r4, r5⟩ := BJc.cells6
           have hw3 := Below.next hdd (Below.next hb2 hb3)
           have HFc := Lib.hid (fun w'' hb => hcl w'' ((But.of_below (C := fun b => b < w1.heap.size) hb3).trans hb))
           have hal3 : Below w3.heap.size w3 (w3.alloc (.cells #[.slice FA (Venn.aloneF ⟨what, s, t, n⟩ true).atoms.length fA, .slice FC (Venn.aloneF ⟨what, s, t, n⟩ true).code.length fC] 38)) := by have w := w3; exact (Below.refl _ _).alloc (Nat.le_refl _) _
           have HOwn := Lib.hid (own_kept (own_base hown (show w1.heap.size ≤ w2.heap.size from hb2.size)) hal3)
           have HBlk := Lib.hid (Blk.new w3 38 #[.slice FA (Venn.aloneF ⟨what, s, t, n⟩ true).atoms.length fA, .slice FC (Venn.aloneF ⟨what, s, t, n⟩ true).code.length fC])
           have HFok := Lib.hid (fok_oneG (HFc.out _ (But.of_below hal3)))
           have HBase := Lib.hid (show w1.heap.size ≤ (w3.alloc (.cells #[.slice FA (Venn.aloneF ⟨what, s, t, n⟩ true).atoms.length fA, .slice FC (Venn.aloneF ⟨what, s, t, n⟩ true).code.length fC] 38)).heap.size from (Below.next hw3 hal3).size)
           have HFar := Lib.hid (fun w5 w6 (hg : (w3.alloc (.cells #[.slice FA (Venn.aloneF ⟨what, s, t, n⟩ true).atoms.length fA, .slice FC (Venn.aloneF ⟨what, s, t, n⟩ true).code.length fC] 38)).grownBy w5 v2.ownBlock) (hj6 : But (fun b => b = j ∨ C b) w5 w6) => show IsAtoms w6 (.slice FA (Venn.aloneF ⟨what, s, t, n⟩ true).atoms.length fA) (Venn.aloneF ⟨what, s, t, n⟩ true).atoms ∧ IsInts w6 (.slice FC (Venn.aloneF ⟨what, s, t, n⟩ true).code.length fC) (Venn.aloneF ⟨what, s, t, n⟩ true).code from hcl w6 ((But.of_below ((Below.next hb3 hal3).grown hg (Below.next hb3 hal3).size (fun b e => (hown.lt b e).1))).trans (hj6.wide (fun b e => e.elim (fun e => by subst e; exact HJL.out) (fun e => HCC1.out b e))))))
        | (have hx := hC1; go_simp; go_at_call 27; refine (HAL.out w2 (Below.next hwd hb2)).mono ?_; rintro e w3 ⟨FA, fA, FC, fC, rfl, hb3, hcl⟩
           have BAc := BAa.keep hb3; have BJc := BJa.keep hb3; obtain ⟨q0, q1, q2, q3⟩ := BAc.cells4; obtain ⟨r0, r1, r2, r3, r4, r5⟩ := BJc.cells6
           have hw3 := Below.next hdd (Below.next hb2 hb3)
           have hal3 : Below w3.heap.size w3 (w3.alloc (.cells #[.slice FA (Venn.aloneF ⟨what, s, t, n⟩ true).atoms.length fA, .slice FC (Venn.aloneF ⟨what, s, t, n⟩ true).code.length fC] 38)) := by have w := w3; exact (Below.refl _ _).alloc (Nat.le_refl _) _
           have HOwn := Lib.hid (own_kept (own_kept (own_base hown (show w1.heap.size ≤ w1.drew.heap.size from Nat.le_refl _)) hb3) hal3)
           have HBlk := Lib.hid (Blk.new w3 38 #[.slice FA (Venn.aloneF ⟨what, s, t, n⟩ true).atoms.length fA, .slice FC (Venn.aloneF ⟨what, s, t, n⟩ true).code.length fC])
           have HFok := Lib.hid (fok_oneG (hcl _ (But.of_below hal3)))
           have HBase := Lib.hid (show w1.heap.size ≤ (w3.alloc (.cells #[.slice FA (Venn.aloneF ⟨what, s, t, n⟩ true).atoms.length fA, .slice FC (Venn.aloneF ⟨what, s, t, n⟩ true).code.length fC] 38)).heap.size from (Below.next hw3 hal3).size)
           have HFar := Lib.hid (fun w5 w6 (hg : (w3.alloc (.cells #[.slice FA (Venn.aloneF ⟨what, s, t, n⟩ true).atoms.length fA, .slice FC (Venn.aloneF ⟨what, s, t, n⟩ true).code.length fC] 38)).grownBy w5 v2.ownBlock) (hj6 : But (fun b => b = j ∨ C b) w5 w6) => show IsAtoms w6 (.slice FA (Venn.aloneF ⟨what, s, t, n⟩ true).atoms.length fA) (Venn.aloneF ⟨what, s, t, n⟩ true).atoms ∧ IsInts w6 (.slice FC (Venn.aloneF ⟨what, s, t, n⟩ true).code.length fC) (Venn.aloneF ⟨what, s, t, n⟩ true).code from hcl w6 (((But.of_below hal3).trans ((But.of_grown hg).wide fun b e => (hown.lt b e).2)).trans (hj6.wide (fun b e => Nat.lt_of_lt_of_le (e.elim (fun e => by subst e; exact HJL.out) (fun e => HCC1.out b e)) hb2.size)))))
        | (go_simp; go_at_call 27; (with_reducible refine (HALd.out).mono ?_); rintro e w2 ⟨FA, fA, FC, fC, rfl, hb2, hcl⟩
           have BAa := (BA1.out.drew).keep hb2; have BJa := (BJ1.out.drew).keep hb2; obtain ⟨p0, p1, p2, p3⟩ := BAa.cells4; obtain ⟨s0, s1, s2, s3, s4, s5⟩ := BJa.cells6; have hA1 := True.intro)
        | (go_simp; go_at_call 26; (with_reducible refine (HCLd.out).mono ?_); rintro e w2 ⟨v2, rfl, hb2, hown⟩
           have BAa := (BA1.out.drew).keep hb2; have BJa := (BJ1.out.drew).keep hb2; obtain ⟨p0, p1, p2, p3⟩ := BAa.cells4; obtain ⟨s0, s1, s2, s3, s4, s5⟩ := BJa.cells6; have hC1 := True.intro))
      all_goals
        have hbel := (Below.next hw3 hal3).grown hgr5 HBase.out (fun b e => (HOwn.out.lt b e).1)
        have hq5 := Below.next hq1 hbel
        have HI5 := Lib.hid (show LClC C w5 j (some ⟨gs, 0, none⟩) (p ++ [(Venn.aloneF ⟨what, s, t, n⟩ true, Value.slice FA (Venn.aloneF ⟨what, s, t, n⟩ true).atoms.length fA, Value.slice FC (Venn.aloneF ⟨what, s, t, n⟩ true).code.length fC)]) from fun w6 hj6 => by
          have ho6 := own_but hown5 hj6 (fun b e h => by have h1 := (hown5.lt b e).1; have h2 : b < w1.heap.size := (h.elim (fun h => by subst h; exact HJL.out) (fun h => HCC1.out b h)); omega)
          refine ⟨?_, fok_appG (HF.out w6 ((But.of_below (C := fun b => b = j ∨ C b) hq5).trans hj6)).2 (fok_oneG (HFar.out w5 w6 hgr5 hj6))⟩
          rw [fCells_app]
          exact fun i x hx => ⟨_, rfl, ho6.cells (g := gs) rfl i x hx⟩)
        have HCS2 := Lib.hid (And.intro hcs2 hcs1)
        clear hown5 hgr5 hcs1 hcs2
        go_wp2
        go_meet
        case rel => exact ⟨gs, cs, _, rfl, HI5.out, rfl, HCS2.out.1, HCS2.out.2, hbel⟩
    case rest =>
    obtain ⟨gs, cs, q, rfl, hlc, hq1f, hcs1, hcs2, hb2⟩ := hcut
    have HLC := Lib.hid hlc
    have HCX := Lib.hid (And.intro hcs1 hcs2)
    have HPM2 := Lib.hid (show (p ++ [q]).map (fun x : FV => x.1) = ls ++ [Venn.aloneF ⟨what, s, t, n⟩ true] by rw [List.map_append, HPM.out]; simp [hq1f])
    have hpl2 : (p ++ [q]).length = p.length + 1 := by simp
    obtain ⟨w2, rfl⟩ : ∃ w2 : World, w2 = wc := ⟨_, rfl⟩
    have hq2 := Below.next hq1 hb2
    have HNX := Lib.hid (show IsForms w2 (.slice (some ⟨gs, 0, none⟩) (p.length + 1) cs) (ls ++ [Venn.aloneF ⟨what, s, t, n⟩ true]) by have := hlc.forms (c := cs) (by rw [hpl2]; exact hcs1) hcs2; rwa [hpl2, HPM2.out] at this)
    clear hlc hcs1 hcs2 hpl2 hq1f
    have BJ2 := Lib.hid (BJ1.out.keep hb2)
    have BA2 := Lib.hid (BA1.out.keep hb2)
    clear x0 x1 x2 x3 x4 x5 BJ1 BA1 HAL HCL
    obtain ⟨x0, x1, x2, x3, x4, x5⟩ := BJ2.out.cells6
    have HC2 := Lib.hid (HCS.out _ w2 hq2 HNX.out)
    cases hov : Venn.openV (ls ++ [Venn.aloneF ⟨what, s, t, n⟩ true]) u with
    | false =>
      rw [hov] at HC2
      go_wp2_with fail
      refine (HC2.out).mono ?_
      rintro e w3 ⟨rfl, hb3⟩
      have hb03 := Below.next hal (Below.next hb1 (Below.next hb2 hb3))
      have GJ := BJ2.out.keep hb3
      have GF := HF.out.keep hb03
      have HV7 := Lib.hid (show sayE ⟨what, s, t, n⟩ true u ls = 7 by rw [HSE2.out, if_neg (by rw [hov]; decide)])
      clear x0 x1 x2 x3 x4 x5
      go_wp2
      go_ret
      exact ⟨7, by rw [errV_ne (show (7 : Int) ≠ 0 by decide)]; rfl, But.of_below hb03, .inl ⟨HV7.out.symm, by decide, L, cL, p, GJ, HPM.out, HPC.out.1, HPC.out.2, GF⟩⟩
    | true =>
      rw [hov] at HC2
      go_wp2_with fail
      refine (HC2.out).mono ?_
      rintro e w3 ⟨rfl, hb3⟩
      have hq3 := Below.next hq2 hb3
      have BJ3 := Lib.hid (BJ2.out.keep hb3)
      have BA3 := Lib.hid (BA2.out.keep hb3)
      clear x0 x1 x2 x3 x4 x5 HC2 HCS BJ2 BA2
      obtain ⟨a0, a1, a2, a3⟩ := BA3.out.cells4
      go_wp2_with fail
      refine (HTX.out _ hq3).mono ?_
      rintro e w4 ⟨rfl, hb4⟩
      have BJ4 := Lib.hid (BJ3.out.keep hb4)
      have HS4 := Lib.hid (logG_step j _ _ _ _ left w4 BJ4.out HLT.out.1 HLT.out.2)
      have HV0 := Lib.hid (show sayE ⟨what, s, t, n⟩ true u ls = 0 by rw [HSE2.out, if_pos hov])
      have hadd1 : ∀ W : World, (Op.stringOp .add ⟨(textA ⟨what, s, t, n⟩).toArray⟩ ⟨#[10]⟩).run Tryz.prog W = .ok (.string (⟨(textA ⟨what, s, t, n⟩).toArray⟩ ++ ⟨#[10]⟩)) W := fun W => run_string_add_sum W _ _ (by rw [HTL.out, show (⟨#[10]⟩ : ByteArray).size = 1 from rfl]; have := HT84.out; omega)
      have hadd2 : ∀ W : World, (Op.stringOp .add ⟨#[43]⟩ (⟨(textA ⟨what, s, t, n⟩).toArray⟩ ++ ⟨#[10]⟩)).run Tryz.prog W = .ok (.string (⟨#[43]⟩ ++ (⟨(textA ⟨what, s, t, n⟩).toArray⟩ ++ ⟨#[10]⟩))) W := fun W => run_string_add_sum W _ _ (by rw [ByteArray.size_append, HTL.out, show (⟨#[10]⟩ : ByteArray).size = 1 from rfl, show (⟨#[43]⟩ : ByteArray).size = 1 from rfl]; have := HT84.out; omega)
      have HSZ := Lib.hid (show ((⟨#[43]⟩ : ByteArray) ++ (⟨(textA ⟨what, s, t, n⟩).toArray⟩ ++ ⟨#[10]⟩)).size = 2 + (textA ⟨what, s, t, n⟩).length by rw [ByteArray.size_append, ByteArray.size_append, HTL.out, show (⟨#[10]⟩ : ByteArray).size = 1 from rfl, show (⟨#[43]⟩ : ByteArray).size = 1 from rfl]; omega)
      clear a0 a1 a2 a3
      have HB04 := Lib.hid (Below.next hal (Below.next hb1 (Below.next hb2 (Below.next hb3 hb4))))
      have HLC4 := Lib.hid (HLC.out.keep (Below.next hb3 hb4))
      rw [StepPost_def] at HS4
      by_cases h0 : left = 0
      · subst h0
        go_wp2_with fail
        refine (HS4.out).mono ?_
        rintro e w5 ⟨rfl, hb5, BJ5⟩
        rw [HRC.out] at HSZ ⊢
        generalize hST : recBA ⟨what, s, t, n⟩ true = ST at HSZ HHF ⊢
        have hwd : IntKind.i64.wrap ((ST.size : Int) / 2) = (ST.size : Int) / 2 := IntWalk.i64_in _ (by have := HSZ.out; have := HT84.out; omega)
        have hd1 : (ST.size : Int) / 2 ≤ (ST.size : Int) := by omega
        have hd0 : (0 : Int) ≤ (ST.size : Int) / 2 := by omega
        have hdn : ((ST.size : Int) / 2).toNat = ST.size / 2 := by omega
        have hadd3 : ∀ W : World, (Op.stringOp .add bs (ST.extract 0 (ST.size / 2))).run Tryz.prog W = .ok (.string (bs ++ ST.extract 0 (ST.size / 2))) W := fun W => run_string_add_sum W _ _ (by rw [ByteArray.size_extract]; have := HSZ.out; have := HT84.out; have := HBS.out; omega)
        obtain ⟨y0, y1, y2, y3, y4, y5⟩ := BJ5.cells6
        have z2 := BJ5.frozen 2
        have G1 := BJ5.set_ 2 (.string (bs ++ ST.extract 0 (ST.size / 2)))
        have GB := But.set_ (C := fun b => b = j) ((But.of_below HB04.out).trans hb5) (p := ⟨j, 2, none⟩) rfl (.string (bs ++ ST.extract 0 (ST.size / 2)))
        have GN := (HF.out.keep HB04.out).step (But.set_ (C := fun b => b = j) hb5 (p := ⟨j, 2, none⟩) rfl (.string (bs ++ ST.extract 0 (ST.size / 2))))
        have GF := Lib.hid (And.intro G1 (And.intro GB GN))
        have HSTe := Lib.hid hST
        clear G1 GB GN BJ5 hb5 hST
        go_upto_region 16 with (fail)
        go_region_law (fail)
        all_goals
          go_wp2
          clear y0 y1 y2 y3 y4 y5 z2
          revert GF
          generalize World.setCell _ _ _ = Wf
          intro GF
          go_ret
          exact ⟨6, by rw [errV_ne (by decide)]; rfl, GF.out.2.1.drew, .inr (.inl ⟨HV0.out, rfl, rfl, L, cL, p, by rw [← HHF.out]; simpa using GF.out.1.drew, HPM.out, HPC.out.1, HPC.out.2, GF.out.2.2.step (But.refl _ _).drew⟩)⟩
      · have h0' : (left == 0) = false := beq_eq_false_iff_ne.2 h0
        have HN0 := Lib.hid h0
        rw [h0'] at HS4
        clear h0 h0'
        generalize hM : max (-1 : Int) (left - 1) = M at HS4
        have HM := Lib.hid hM
        clear hM
        go_wp2_with fail
        refine (HS4.out).mono ?_
        rintro e w5 ⟨rfl, hb5, BJ5⟩
        rw [HRC.out] at HSZ ⊢
        generalize hST : recBA ⟨what, s, t, n⟩ true = ST at HSZ ⊢
        have HSTe := Lib.hid hST
        clear hST
        have hadd3 : ∀ W : World, (Op.stringOp .add bs ST).run Tryz.prog W = .ok (.string (bs ++ ST)) W := fun W => run_string_add_sum W _ _ (by have := HSZ.out; have := HT84.out; have := HBS.out; omega)
        obtain ⟨y0, y1, y2, y3, y4, y5⟩ := BJ5.cells6
        have z1 := BJ5.frozen 1
        have z2 := BJ5.frozen 2
        have G1 := BJ5.set_ 2 (.string (bs ++ ST))
        rw [show (#[.int .i64 u, .slice L p.length cL, .string bs, .int .i64 safe, .int .i64 M, .bool false] : Array Value).setIfInBounds 2 (.string (bs ++ ST)) = #[.int .i64 u, .slice L p.length cL, .string (bs ++ ST), .int .i64 safe, .int .i64 M, .bool false] by simp] at G1
        have G2 := G1.set_ 1 (.slice (some ⟨gs, 0, none⟩) (p.length + 1) cs)
        rw [show (#[.int .i64 u, .slice L p.length cL, .string (bs ++ ST), .int .i64 safe, .int .i64 M, .bool false] : Array Value).setIfInBounds 1 (.slice (some ⟨gs, 0, none⟩) (p.length + 1) cs) = #[.int .i64 u, .slice (some ⟨gs, 0, none⟩) (p.length + 1) cs, .string (bs ++ ST), .int .i64 safe, .int .i64 M, .bool false] by simp] at G2
        have GS := But.set_ (C := fun b => b = j) (But.set_ (C := fun b => b = j) hb5 (p := ⟨j, 2, none⟩) rfl (.string (bs ++ ST))) (p := ⟨j, 1, none⟩) rfl (.slice (some ⟨gs, 0, none⟩) (p.length + 1) cs)
        have GB := (But.of_below (C := fun b => b = j) HB04.out).trans GS
        have GN := HLC4.out.step GS
        have GF := Lib.hid (And.intro G2 (And.intro GB GN))
        clear G1 G2 GB GS GN BJ5 hb5
        go_wp2
        clear y0 y1 y2 y3 y4 y5 z1 z2
        revert GF
        generalize World.setCell _ _ _ = Wf
        intro GF
        go_ret
        exact ⟨0, by rw [errV_zero rfl]; rfl, GF.out.2.1, .inr (.inr ⟨HV0.out, HN0.out, rfl, some ⟨gs, 0, none⟩, cs, p ++ [q], by rw [HSTe.out, HM.out]; simpa using GF.out.1, HPM2.out, by simpa using HCX.out.1, HCX.out.2, GF.out.2.2⟩)⟩
  · have HNE := Lib.hid (errV_ne hc)
    rw [HNE.out] at HCH
    have HCC := Lib.hid hc
    have HVC := Lib.hid (show sayE ⟨what, s, t, n⟩ true u ls = Venn.atomChk ⟨what, s, t, n⟩ by rw [HSE.out, if_pos hc])
    clear hok hu hc HTB
    go_enter Tryz.func7, Tryz.ntmps7
    obtain ⟨x0, x1, x2, x3, x4, x5⟩ := BJ0.out.cells6
    obtain ⟨a0, a1, a2, a3⟩ := BA0.out.cells4
    go_wp2_with fail
    refine (HCH.out _ hal).mono ?_
    rintro e w1 ⟨rfl, hb1⟩
    have hq1 := Below.next hal hb1
    have GJ := BJ0.out.keep hb1
    have GF := HF.out.keep hq1
    clear x0 x1 x2 x3 x4 x5 a0 a1 a2 a3
    go_wp2
    go_ret
    exact ⟨_, by rw [HNE.out]; rfl, But.of_below hq1, .inl ⟨HVC.out.symm, HCC.out, L, cL, p, GJ, HPM.out, HPC.out.1, HPC.out.2, GF⟩⟩
set_option maxHeartbeats 8000000 in
set_option maxRecDepth 100000 in
theorem logG_SayF {C : Nat → Prop} (j : Nat) (u : Int) (ls : List Venn.Form) (bs : ByteArray) (safe : Nat) (left : Int) (what n : Int) (sv tv : Value) (s t : List Int) (w : World) (h : LogC C w j u ls bs safe left false) (hs : IsInts w sv s) (ht : IsInts w tv t) (hk : KindsOk w) (htab : TabOk w)
    (hok : ∀ f ∈ ls, Venn.formChk f = 0) (hu : Venn.things u = true) (hbs : bs.size ≤ 1073741824) (hlt : -1 ≤ left) (hlm : left ≤ 9223372036854775807) (h100 : ls.length ≤ 90) (hC : ∀ b, C b → b < w.heap.size := by intro b h; exact False.elim h) :
    Calls Tryz.prog 7 #[.pointer (some ⟨j, 0, none⟩), .agg #[.int .i64 what, sv, tv, .int .i64 n], .bool false] w (SayC C ⟨what, s, t, n⟩ false j u ls bs safe left w) := by
  have HCB := Lib.hid hC
  clear hC
  have HS := Lib.hid hs
  have HT := Lib.hid ht
  have HK := Lib.hid hk
  have HTB := Lib.hid htab
  have HBS := Lib.hid hbs
  obtain ⟨L, cL, p, hB, hp, hpc, hcm, hF⟩ := h
  have HF := Lib.hid hF
  have HPM := Lib.hid hp
  have HPC := Lib.hid (And.intro hpc hcm)
  have HPL := Lib.hid (show p.length = ls.length by rw [← hp]; simp)
  have HLT := Lib.hid (And.intro hlt hlm)
  have HSE := Lib.hid (show sayE ⟨what, s, t, n⟩ false u ls = if Venn.atomChk ⟨what, s, t, n⟩ ≠ 0 then Venn.atomChk ⟨what, s, t, n⟩ else if 6 ≤ ls.length then 4 else if Venn.openV (ls ++ [Venn.aloneF ⟨what, s, t, n⟩ false]) u = true then 0 else 7 from rfl)
  clear hp hpc hcm hlt hlm
  obtain ⟨SA, kS, rfl, -⟩ := hs
  obtain ⟨TA, kT, rfl, -⟩ := ht
  have HCH := Lib.hid (fun W (hW : Below w.heap.size w W) => atom_Check what n _ _ s t W (HS.out.keep hW) (HT.out.keep hW) (HK.out.keep hW))
  have hal : Below w.heap.size w (w.alloc (.cells #[.int .i64 what, .slice SA s.length kS, .slice TA t.length kT, .int .i64 n] 32)) := by (repeat' (first | (with_reducible exact Below.refl _ _) | (with_reducible assumption) | (with_reducible refine Below.next ?_ (by with_reducible assumption)) | (with_reducible refine Below.drew ?_) | (with_reducible refine Below.laid ?_ _) | (with_reducible refine Below.setCell ?_ ?_ _) | (with_reducible refine size_of ?_) | (with_reducible refine Nat.le_succ_of_le ?_) | go_size))
  have BA0 := Lib.hid (Blk.new w 32 #[.int .i64 what, .slice SA s.length kS, .slice TA t.length kT, .int .i64 n])
  have BJ0 := Lib.hid (hB.keep hal)
  have hjl := hB.lt
  clear hk htab hF hB hbs
  by_cases hc : Venn.atomChk ⟨what, s, t, n⟩ = 0
  · rw [hc, errV_zero rfl] at HCH
    have HTX := Lib.hid (fun W (hW : Below w.heap.size w W) => atom_Text what n _ _ s t W (HS.out.keep hW) (HT.out.keep hW) (HK.out.keep hW) (HTB.out.keep hW) hc)
    have HAL := Lib.hid (fun W (hW : Below w.heap.size w W) => log_Alone what n _ _ s t false W (HS.out.keep hW) (HT.out.keep hW) hc)
    have HCL := Lib.hid (fun W (hW : Below w.heap.size w W) => clone_anyG L cL p W ((HF.out W (But.of_below hW)).1) ((HF.out W (But.of_below hW)).2) (by have := HPL.out; omega))
    have HCS := Lib.hid (fun v W (hW : Below w.heap.size w W) (h : IsForms W v (ls ++ [Venn.aloneF ⟨what, s, t, n⟩ false])) => core_Some v _ u W h (HK.out.keep hW) (fun f hf => by
      rcases List.mem_append.1 hf with hf | hf
      · exact hok f hf
      · rw [List.mem_singleton.1 hf]; exact alone_okG hc _) hu)
    have HTL := Lib.hid (show (⟨(textA ⟨what, s, t, n⟩).toArray⟩ : ByteArray).size = (textA ⟨what, s, t, n⟩).length by show (textA ⟨what, s, t, n⟩).toArray.size = _; simp)
    have HT84 := Lib.hid (textA_le hc)
    have HRC := Lib.hid (show (⟨#[45]⟩ : ByteArray) ++ (⟨(textA ⟨what, s, t, n⟩).toArray⟩ ++ ⟨#[10]⟩) = recBA ⟨what, s, t, n⟩ false by apply ByteArray.ext; simp [recBA, recB])
    have HHF := Lib.hid (show (recBA ⟨what, s, t, n⟩ false).extract 0 ((recBA ⟨what, s, t, n⟩ false).size / 2) = halfBA ⟨what, s, t, n⟩ false from rfl)
    have HCC := Lib.hid hc
    have HHC := Lib.hid hc
    clear hok hu hc HTB
    by_cases h6 : 6 ≤ ls.length
    · have hl6 : (6 : Int) ≤ (p.length : Int) := by have := HPL.out; omega
      have HV4 := Lib.hid (show sayE ⟨what, s, t, n⟩ false u ls = 4 by rw [HSE.out, if_neg (by rw [HHC.out]; simp), if_pos h6])
      clear h6
      go_enter Tryz.func7, Tryz.ntmps7
      obtain ⟨x0, x1, x2, x3, x4, x5⟩ := BJ0.out.cells6
      obtain ⟨a0, a1, a2, a3⟩ := BA0.out.cells4
      go_wp2_with fail
      refine (HCH.out _ hal).mono ?_
      rintro e w1 ⟨rfl, hb1⟩
      have hq1 := Below.next hal hb1
      have GJ := BJ0.out.keep hb1
      clear x0 x1 x2 x3 x4 x5 a0 a1 a2 a3
      obtain ⟨x0, x1, x2, x3, x4, x5⟩ := GJ.cells6
      go_wp2
      go_ret
      exact ⟨4, by rw [errV_ne (by decide)]; rfl, But.of_below hq1, .inl ⟨HV4.out.symm, by decide, L, cL, p, GJ, HPM.out, HPC.out.1, HPC.out.2, HF.out.keep hq1⟩⟩
    have hl6 : (p.length : Int) < 6 := by have := HPL.out; omega
    have hl6' : ¬ (6 : Int) ≤ (p.length : Int) := by have := HPL.out; omega
    have HSE2 := Lib.hid (show sayE ⟨what, s, t, n⟩ false u ls = if Venn.openV (ls ++ [Venn.aloneF ⟨what, s, t, n⟩ false]) u = true then 0 else 7 by rw [HSE.out, if_neg (by rw [HHC.out]; simp), if_neg h6])
    clear h6
    go_enter Tryz.func7, Tryz.ntmps7
    obtain ⟨x0, x1, x2, x3, x4, x5⟩ := BJ0.out.cells6
    obtain ⟨a0, a1, a2, a3⟩ := BA0.out.cells4
    go_wp2_with fail
    refine (HCH.out _ hal).mono ?_
    rintro e w1 ⟨rfl, hb1⟩
    have hq1 := Below.next hal hb1
    have BJ1 := Lib.hid (BJ0.out.keep hb1)
    have BA1 := Lib.hid (BA0.out.keep hb1)
    clear x0 x1 x2 x3 x4 x5 a0 a1 a2 a3 BJ0 BA0 HCH
    obtain ⟨x0, x1, x2, x3, x4, x5⟩ := BJ1.out.cells6
    go_upto_region 8 with (fail)
    go_cut [8] (fun z wx => ∃ gs cs q, z = .slice (some ⟨gs, 0, none⟩) (p.length + 1) cs ∧ LClC C wx j (some ⟨gs, 0, none⟩) (p ++ [q]) ∧ q.1 = Venn.aloneF ⟨what, s, t, n⟩ false ∧ p.length + 1 ≤ cs ∧ cs ≤ maxLen ∧ Below w1.heap.size w1 wx)
    case first =>
      clear HTX HCS HTL HT84 HBS HSE HSE2 HRC HHF
      have HJL := Lib.hid (show j < w1.heap.size from BJ1.out.lt)
      have HCC1 := Lib.hid (show ∀ b, C b → b < w1.heap.size from fun b h => Nat.lt_of_lt_of_le (HCB.out b h) hq1.size)
      obtain ⟨a0, a1, a2, a3⟩ := BA1.out.cells4
      have hwd := hq1.drew
      have HALd := Lib.hid (HAL.out _ hwd)
      have HCLd := Lib.hid (HCL.out _ hwd)
      have hdd : Below w1.heap.size w1 w1.drew := (Below.refl _ w1).drew
      go_region_law (first
        | (refine step_appG _ (by rfl) (.tmp 31) (.tmp 35) (by rfl) w1.heap.size _ p.length _ (by rfl) HOwn.out w3.heap.size 1 (Venn.aloneF ⟨what, s, t, n⟩ false, .slice FA (Venn.aloneF ⟨what, s, t, n⟩ false).atoms.length fA, .slice FC (Venn.aloneF ⟨what, s, t, n⟩ false).code.length fC) (by simp [go_sem]) HBlk.out HFok.out (by omega) HBase.out ?_; intro gs cs w5 hown5 hcs1 hcs2 hgr5)
        | (have hx := hA1; go_simp; go_at_call 26; refine (HCL.out w2 (Below.next hwd hb2)).mono ?_; rintro e w3 ⟨v2, rfl, hb3, hown⟩
           have BAc := BAa.keep hb3; have BJc := BJa.keep hb3; obtain ⟨q0, q1, q2, q3⟩ := BAc.cells4; obtain ⟨r0, r1, r2, r3, r4, r5⟩ := BJc.cells6
           have hw3 := Below.next hdd (Below.next hb2 hb3)
           have HFc := Lib.hid (fun w'' hb => hcl w'' ((But.of_below (C := fun b => b < w1.heap.size) hb3).trans hb))
           have hal3 : Below w3.heap.size w3 (w3.alloc (.cells #[.slice FA (Venn.aloneF ⟨what, s, t, n⟩ false).atoms.length fA, .slice FC (Venn.aloneF ⟨what, s, t, n⟩ false).code.length fC] 38)) := by have w := w3; exact (Below.refl _ _).alloc (Nat.le_refl _) _
           have HOwn := Lib.hid (own_kept (own_base hown (show w1.heap.size ≤ w2.heap.size from hb2.size)) hal3)
           have HBlk := Lib.hid (Blk.new w3 38 #[.slice FA (Venn.aloneF ⟨what, s, t, n⟩ false).atoms.length fA, .slice FC (Venn.aloneF ⟨what, s, t, n⟩ false).code.length fC])
           have HFok := Lib.hid (fok_oneG (HFc.out _ (But.of_below hal3)))
           have HBase := Lib.hid (show w1.heap.size ≤ (w3.alloc (.cells #[.slice FA (Venn.aloneF ⟨what, s, t, n⟩ false).atoms.length fA, .slice FC (Venn.aloneF ⟨what, s, t, n⟩ false).code.length fC] 38)).heap.size from (Below.next hw3 hal3).size)
           have HFar := Lib.hid (fun w5 w6 (hg : (w3.alloc (.cells #[.slice FA (Venn.aloneF ⟨what, s, t, n⟩ false).atoms.length fA, .slice FC (Venn.aloneF ⟨what, s, t, n⟩ false).code.length fC] 38)).grownBy w5 v2.ownBlock) (hj6 : But (fun b => b = j ∨ C b) w5 w6) => show IsAtoms w6 (.slice FA (Venn.aloneF ⟨what, s, t, n⟩ false).atoms.length fA) (Venn.aloneF ⟨what, s, t, n⟩ false).atoms ∧ IsInts w6 (.slice FC (Venn.aloneF ⟨what, s, t, n⟩ false).code.length fC) (Venn.aloneF ⟨what, s, t, n⟩ false).code from hcl w6 ((But.of_below ((Below.next hb3 hal3).grown hg (Below.next hb3 hal3).size (fun b e => (hown.lt b e).1))).trans (hj6.wide (fun b e => e.elim (fun e => by subst e; exact HJL.out) (fun e => HCC1.out b e))))))
        | (have hx := hC1; go_simp; go_at_call 27; refine (HAL.out w2 (Below.next hwd hb2)).mono ?_; rintro e w3 ⟨FA, fA, FC, fC, rfl, hb3, hcl⟩
           have BAc := BAa.keep hb3; have BJc := BJa.keep hb3; obtain ⟨q0, q1, q2, q3⟩ := BAc.cells4; obtain ⟨r0, r1, r2, r3, r4, r5⟩ := BJc.cells6
           have hw3 := Below.next hdd (Below.next hb2 hb3)
           have hal3 : Below w3.heap.size w3 (w3.alloc (.cells #[.slice FA (Venn.aloneF ⟨what, s, t, n⟩ false).atoms.length fA, .slice FC (Venn.aloneF ⟨what, s, t, n⟩ false).code.length fC] 38)) := by have w := w3; exact (Below.refl _ _).alloc (Nat.le_refl _) _
           have HOwn := Lib.hid (own_kept (own_kept (own_base hown (show w1.heap.size ≤ w1.drew.heap.size from Nat.le_refl _)) hb3) hal3)
           have HBlk := Lib.hid (Blk.new w3 38 #[.slice FA (Venn.aloneF ⟨what, s, t, n⟩ false).atoms.length fA, .slice FC (Venn.aloneF ⟨what, s, t, n⟩ false).code.length fC])
           have HFok := Lib.hid (fok_oneG (hcl _ (But.of_below hal3)))
           have HBase := Lib.hid (show w1.heap.size ≤ (w3.alloc (.cells #[.slice FA (Venn.aloneF ⟨what, s, t, n⟩ false).atoms.length fA, .slice FC (Venn.aloneF ⟨what, s, t, n⟩ false).code.length fC] 38)).heap.size from (Below.next hw3 hal3).size)
           have HFar := Lib.hid (fun w5 w6 (hg : (w3.alloc (.cells #[.slice FA (Venn.aloneF ⟨what, s, t, n⟩ false).atoms.length fA, .slice FC (Venn.aloneF ⟨what, s, t, n⟩ false).code.length fC] 38)).grownBy w5 v2.ownBlock) (hj6 : But (fun b => b = j ∨ C b) w5 w6) => show IsAtoms w6 (.slice FA (Venn.aloneF ⟨what, s, t, n⟩ false).atoms.length fA) (Venn.aloneF ⟨what, s, t, n⟩ false).atoms ∧ IsInts w6 (.slice FC (Venn.aloneF ⟨what, s, t, n⟩ false).code.length fC) (Venn.aloneF ⟨what, s, t, n⟩ false).code from hcl w6 (((But.of_below hal3).trans ((But.of_grown hg).wide fun b e => (hown.lt b e).2)).trans (hj6.wide (fun b e => Nat.lt_of_lt_of_le (e.elim (fun e => by subst e; exact HJL.out) (fun e => HCC1.out b e)) hb2.size)))))
        | (go_simp; go_at_call 27; (with_reducible refine (HALd.out).mono ?_); rintro e w2 ⟨FA, fA, FC, fC, rfl, hb2, hcl⟩
           have BAa := (BA1.out.drew).keep hb2; have BJa := (BJ1.out.drew).keep hb2; obtain ⟨p0, p1, p2, p3⟩ := BAa.cells4; obtain ⟨s0, s1, s2, s3, s4, s5⟩ := BJa.cells6; have hA1 := True.intro)
        | (go_simp; go_at_call 26; (with_reducible refine (HCLd.out).mono ?_); rintro e w2 ⟨v2, rfl, hb2, hown⟩
           have BAa := (BA1.out.drew).keep hb2; have BJa := (BJ1.out.drew).keep hb2; obtain ⟨p0, p1, p2, p3⟩ := BAa.cells4; obtain ⟨s0, s1, s2, s3, s4, s5⟩ := BJa.cells6; have hC1 := True.intro))
      all_goals
        have hbel := (Below.next hw3 hal3).grown hgr5 HBase.out (fun b e => (HOwn.out.lt b e).1)
        have hq5 := Below.next hq1 hbel
        have HI5 := Lib.hid (show LClC C w5 j (some ⟨gs, 0, none⟩) (p ++ [(Venn.aloneF ⟨what, s, t, n⟩ false, Value.slice FA (Venn.aloneF ⟨what, s, t, n⟩ false).atoms.length fA, Value.slice FC (Venn.aloneF ⟨what, s, t, n⟩ false).code.length fC)]) from fun w6 hj6 => by
          have ho6 := own_but hown5 hj6 (fun b e h => by have h1 := (hown5.lt b e).1; have h2 : b < w1.heap.size := (h.elim (fun h => by subst h; exact HJL.out) (fun h => HCC1.out b h)); omega)
          refine ⟨?_, fok_appG (HF.out w6 ((But.of_below (C := fun b => b = j ∨ C b) hq5).trans hj6)).2 (fok_oneG (HFar.out w5 w6 hgr5 hj6))⟩
          rw [fCells_app]
          exact fun i x hx => ⟨_, rfl, ho6.cells (g := gs) rfl i x hx⟩)
        have HCS2 := Lib.hid (And.intro hcs2 hcs1)
        clear hown5 hgr5 hcs1 hcs2
        go_wp2
        go_meet
        case rel => exact ⟨gs, cs, _, rfl, HI5.out, rfl, HCS2.out.1, HCS2.out.2, hbel⟩
    case rest =>
    obtain ⟨gs, cs, q, rfl, hlc, hq1f, hcs1, hcs2, hb2⟩ := hcut
    have HLC := Lib.hid hlc
    have HCX := Lib.hid (And.intro hcs1 hcs2)
    have HPM2 := Lib.hid (show (p ++ [q]).map (fun x : FV => x.1) = ls ++ [Venn.aloneF ⟨what, s, t, n⟩ false] by rw [List.map_append, HPM.out]; simp [hq1f])
    have hpl2 : (p ++ [q]).length = p.length + 1 := by simp
    obtain ⟨w2, rfl⟩ : ∃ w2 : World, w2 = wc := ⟨_, rfl⟩
    have hq2 := Below.next hq1 hb2
    have HNX := Lib.hid (show IsForms w2 (.slice (some ⟨gs, 0, none⟩) (p.length + 1) cs) (ls ++ [Venn.aloneF ⟨what, s, t, n⟩ false]) by have := hlc.forms (c := cs) (by rw [hpl2]; exact hcs1) hcs2; rwa [hpl2, HPM2.out] at this)
    clear hlc hcs1 hcs2 hpl2 hq1f
    have BJ2 := Lib.hid (BJ1.out.keep hb2)
    have BA2 := Lib.hid (BA1.out.keep hb2)
    clear x0 x1 x2 x3 x4 x5 BJ1 BA1 HAL HCL
    obtain ⟨x0, x1, x2, x3, x4, x5⟩ := BJ2.out.cells6
    have HC2 := Lib.hid (HCS.out _ w2 hq2 HNX.out)
    cases hov : Venn.openV (ls ++ [Venn.aloneF ⟨what, s, t, n⟩ false]) u with
    | false =>
      rw [hov] at HC2
      go_wp2_with fail
      refine (HC2.out).mono ?_
      rintro e w3 ⟨rfl, hb3⟩
      have hb03 := Below.next hal (Below.next hb1 (Below.next hb2 hb3))
      have GJ := BJ2.out.keep hb3
      have GF := HF.out.keep hb03
      have HV7 := Lib.hid (show sayE ⟨what, s, t, n⟩ false u ls = 7 by rw [HSE2.out, if_neg (by rw [hov]; decide)])
      clear x0 x1 x2 x3 x4 x5
      go_wp2
      go_ret
      exact ⟨7, by rw [errV_ne (show (7 : Int) ≠ 0 by decide)]; rfl, But.of_below hb03, .inl ⟨HV7.out.symm, by decide, L, cL, p, GJ, HPM.out, HPC.out.1, HPC.out.2, GF⟩⟩
    | true =>
      rw [hov] at HC2
      go_wp2_with fail
      refine (HC2.out).mono ?_
      rintro e w3 ⟨rfl, hb3⟩
      have hq3 := Below.next hq2 hb3
      have BJ3 := Lib.hid (BJ2.out.keep hb3)
      have BA3 := Lib.hid (BA2.out.keep hb3)
      clear x0 x1 x2 x3 x4 x5 HC2 HCS BJ2 BA2
      obtain ⟨a0, a1, a2, a3⟩ := BA3.out.cells4
      go_wp2_with fail
      refine (HTX.out _ hq3).mono ?_
      rintro e w4 ⟨rfl, hb4⟩
      have BJ4 := Lib.hid (BJ3.out.keep hb4)
      have HS4 := Lib.hid (logG_step j _ _ _ _ left w4 BJ4.out HLT.out.1 HLT.out.2)
      have HV0 := Lib.hid (show sayE ⟨what, s, t, n⟩ false u ls = 0 by rw [HSE2.out, if_pos hov])
      have hadd1 : ∀ W : World, (Op.stringOp .add ⟨(textA ⟨what, s, t, n⟩).toArray⟩ ⟨#[10]⟩).run Tryz.prog W = .ok (.string (⟨(textA ⟨what, s, t, n⟩).toArray⟩ ++ ⟨#[10]⟩)) W := fun W => run_string_add_sum W _ _ (by rw [HTL.out, show (⟨#[10]⟩ : ByteArray).size = 1 from rfl]; have := HT84.out; omega)
      have hadd2 : ∀ W : World, (Op.stringOp .add ⟨#[45]⟩ (⟨(textA ⟨what, s, t, n⟩).toArray⟩ ++ ⟨#[10]⟩)).run Tryz.prog W = .ok (.string (⟨#[45]⟩ ++ (⟨(textA ⟨what, s, t, n⟩).toArray⟩ ++ ⟨#[10]⟩))) W := fun W => run_string_add_sum W _ _ (by rw [ByteArray.size_append, HTL.out, show (⟨#[10]⟩ : ByteArray).size = 1 from rfl, show (⟨#[45]⟩ : ByteArray).size = 1 from rfl]; have := HT84.out; omega)
      have HSZ := Lib.hid (show ((⟨#[45]⟩ : ByteArray) ++ (⟨(textA ⟨what, s, t, n⟩).toArray⟩ ++ ⟨#[10]⟩)).size = 2 + (textA ⟨what, s, t, n⟩).length by rw [ByteArray.size_append, ByteArray.size_append, HTL.out, show (⟨#[10]⟩ : ByteArray).size = 1 from rfl, show (⟨#[45]⟩ : ByteArray).size = 1 from rfl]; omega)
      clear a0 a1 a2 a3
      have HB04 := Lib.hid (Below.next hal (Below.next hb1 (Below.next hb2 (Below.next hb3 hb4))))
      have HLC4 := Lib.hid (HLC.out.keep (Below.next hb3 hb4))
      rw [StepPost_def] at HS4
      by_cases h0 : left = 0
      · subst h0
        go_wp2_with fail
        refine (HS4.out).mono ?_
        rintro e w5 ⟨rfl, hb5, BJ5⟩
        rw [HRC.out] at HSZ ⊢
        generalize hST : recBA ⟨what, s, t, n⟩ false = ST at HSZ HHF ⊢
        have hwd : IntKind.i64.wrap ((ST.size : Int) / 2) = (ST.size : Int) / 2 := IntWalk.i64_in _ (by have := HSZ.out; have := HT84.out; omega)
        have hd1 : (ST.size : Int) / 2 ≤ (ST.size : Int) := by omega
        have hd0 : (0 : Int) ≤ (ST.size : Int) / 2 := by omega
        have hdn : ((ST.size : Int) / 2).toNat = ST.size / 2 := by omega
        have hadd3 : ∀ W : World, (Op.stringOp .add bs (ST.extract 0 (ST.size / 2))).run Tryz.prog W = .ok (.string (bs ++ ST.extract 0 (ST.size / 2))) W := fun W => run_string_add_sum W _ _ (by rw [ByteArray.size_extract]; have := HSZ.out; have := HT84.out; have := HBS.out; omega)
        obtain ⟨y0, y1, y2, y3, y4, y5⟩ := BJ5.cells6
        have z2 := BJ5.frozen 2
        have G1 := BJ5.set_ 2 (.string (bs ++ ST.extract 0 (ST.size / 2)))
        have GB := But.set_ (C := fun b => b = j) ((But.of_below HB04.out).trans hb5) (p := ⟨j, 2, none⟩) rfl (.string (bs ++ ST.extract 0 (ST.size / 2)))
        have GN := (HF.out.keep HB04.out).step (But.set_ (C := fun b => b = j) hb5 (p := ⟨j, 2, none⟩) rfl (.string (bs ++ ST.extract 0 (ST.size / 2))))
        have GF := Lib.hid (And.intro G1 (And.intro GB GN))
        have HSTe := Lib.hid hST
        clear G1 GB GN BJ5 hb5 hST
        go_upto_region 16 with (fail)
        go_region_law (fail)
        all_goals
          go_wp2
          clear y0 y1 y2 y3 y4 y5 z2
          revert GF
          generalize World.setCell _ _ _ = Wf
          intro GF
          go_ret
          exact ⟨6, by rw [errV_ne (by decide)]; rfl, GF.out.2.1.drew, .inr (.inl ⟨HV0.out, rfl, rfl, L, cL, p, by rw [← HHF.out]; simpa using GF.out.1.drew, HPM.out, HPC.out.1, HPC.out.2, GF.out.2.2.step (But.refl _ _).drew⟩)⟩
      · have h0' : (left == 0) = false := beq_eq_false_iff_ne.2 h0
        have HN0 := Lib.hid h0
        rw [h0'] at HS4
        clear h0 h0'
        generalize hM : max (-1 : Int) (left - 1) = M at HS4
        have HM := Lib.hid hM
        clear hM
        go_wp2_with fail
        refine (HS4.out).mono ?_
        rintro e w5 ⟨rfl, hb5, BJ5⟩
        rw [HRC.out] at HSZ ⊢
        generalize hST : recBA ⟨what, s, t, n⟩ false = ST at HSZ ⊢
        have HSTe := Lib.hid hST
        clear hST
        have hadd3 : ∀ W : World, (Op.stringOp .add bs ST).run Tryz.prog W = .ok (.string (bs ++ ST)) W := fun W => run_string_add_sum W _ _ (by have := HSZ.out; have := HT84.out; have := HBS.out; omega)
        obtain ⟨y0, y1, y2, y3, y4, y5⟩ := BJ5.cells6
        have z1 := BJ5.frozen 1
        have z2 := BJ5.frozen 2
        have G1 := BJ5.set_ 2 (.string (bs ++ ST))
        rw [show (#[.int .i64 u, .slice L p.length cL, .string bs, .int .i64 safe, .int .i64 M, .bool false] : Array Value).setIfInBounds 2 (.string (bs ++ ST)) = #[.int .i64 u, .slice L p.length cL, .string (bs ++ ST), .int .i64 safe, .int .i64 M, .bool false] by simp] at G1
        have G2 := G1.set_ 1 (.slice (some ⟨gs, 0, none⟩) (p.length + 1) cs)
        rw [show (#[.int .i64 u, .slice L p.length cL, .string (bs ++ ST), .int .i64 safe, .int .i64 M, .bool false] : Array Value).setIfInBounds 1 (.slice (some ⟨gs, 0, none⟩) (p.length + 1) cs) = #[.int .i64 u, .slice (some ⟨gs, 0, none⟩) (p.length + 1) cs, .string (bs ++ ST), .int .i64 safe, .int .i64 M, .bool false] by simp] at G2
        have GS := But.set_ (C := fun b => b = j) (But.set_ (C := fun b => b = j) hb5 (p := ⟨j, 2, none⟩) rfl (.string (bs ++ ST))) (p := ⟨j, 1, none⟩) rfl (.slice (some ⟨gs, 0, none⟩) (p.length + 1) cs)
        have GB := (But.of_below (C := fun b => b = j) HB04.out).trans GS
        have GN := HLC4.out.step GS
        have GF := Lib.hid (And.intro G2 (And.intro GB GN))
        clear G1 G2 GB GS GN BJ5 hb5
        go_wp2
        clear y0 y1 y2 y3 y4 y5 z1 z2
        revert GF
        generalize World.setCell _ _ _ = Wf
        intro GF
        go_ret
        exact ⟨0, by rw [errV_zero rfl]; rfl, GF.out.2.1, .inr (.inr ⟨HV0.out, HN0.out, rfl, some ⟨gs, 0, none⟩, cs, p ++ [q], by rw [HSTe.out, HM.out]; simpa using GF.out.1, HPM2.out, by simpa using HCX.out.1, HCX.out.2, GF.out.2.2⟩)⟩
  · have HNE := Lib.hid (errV_ne hc)
    rw [HNE.out] at HCH
    have HCC := Lib.hid hc
    have HVC := Lib.hid (show sayE ⟨what, s, t, n⟩ false u ls = Venn.atomChk ⟨what, s, t, n⟩ by rw [HSE.out, if_pos hc])
    clear hok hu hc HTB
    go_enter Tryz.func7, Tryz.ntmps7
    obtain ⟨x0, x1, x2, x3, x4, x5⟩ := BJ0.out.cells6
    obtain ⟨a0, a1, a2, a3⟩ := BA0.out.cells4
    go_wp2_with fail
    refine (HCH.out _ hal).mono ?_
    rintro e w1 ⟨rfl, hb1⟩
    have hq1 := Below.next hal hb1
    have GJ := BJ0.out.keep hb1
    have GF := HF.out.keep hq1
    clear x0 x1 x2 x3 x4 x5 a0 a1 a2 a3
    go_wp2
    go_ret
    exact ⟨_, by rw [HNE.out]; rfl, But.of_below hq1, .inl ⟨HVC.out.symm, HCC.out, L, cL, p, GJ, HPM.out, HPC.out.1, HPC.out.2, GF⟩⟩
end Go.Proofs.YtjnjgcibhjdmdaaGreatDoor

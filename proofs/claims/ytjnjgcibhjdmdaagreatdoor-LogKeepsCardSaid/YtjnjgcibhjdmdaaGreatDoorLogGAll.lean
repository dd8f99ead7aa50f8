/-
  A ROW OF FORMULAS OF THE CALL'S OWN; THE WALKS of log.All and log.Crash.
-/
import Derived.Test.YtjnjgcibhjdmdaaGreatDoorLogG
import Derived.Test.YtjnjgcibhjdmdaaGreatDoorVennKeep
import Derived.Test.YtjnjgcibhjdmdaaGreatDoorCountL
import Derived.Test.YtjnjgcibhjdmdaaGreatDoorLastL
import Derived.Deep.QuietTactic
import Derived.BigQuiet
import Derived.BigRegion
import Derived.Lib.SplitLaws
namespace Go.Proofs.YtjnjgcibhjdmdaaGreatDoor
open Go.RowKit

/-- A row of formulas of the call's own: the formulas stand whatever becomes of the row. -/
structure RowF (base : Nat) (w : World) (v : Value) (p : List FV) : Prop where
  own : w.ownsRow base 38 2 v p.length (fCells p)
  cl : ∀ w', But (fun b => v.ownBlock = some b) w w' → FOk w' p
theorem RowF.nil (base : Nat) (w : World) : RowF base w (.slice none 0 0) [] := ⟨World.ownsRow_nil _ _ _ _, fun _ _ x hx => by cases hx⟩
theorem RowF.keep {base : Nat} {w w' : World} {v : Value} {p : List FV} (h : RowF base w v p) (hb : Below w.heap.size w w') : RowF base w' v p :=
  ⟨own_kept h.own hb, fun w'' k => h.cl w'' ((But.of_below hb).trans k)⟩
theorem RowF.forms {base : Nat} {w : World} {v : Value} {p : List FV} (h : RowF base w v p) : IsForms w v (p.map (fun x : FV => x.1)) := forms_of_own h.own (h.cl w (But.refl _ _))
theorem RowF.slice {base : Nat} {w : World} {v : Value} {p : List FV} (h : RowF base w v p) : ∃ A c, v = .slice A p.length c := ownsRow_slice h.own
theorem but_back {v v' : Value} {w w' w5 : World} (hg : w.grownBy w' v.ownBlock) (hat : v'.ownBlock = v.ownBlock ∨ v'.ownBlock = some w.heap.size) (hb : But (fun b => v'.ownBlock = some b) w' w5) : But (fun b => v.ownBlock = some b) w w5 :=
  ⟨hb.os.trans hg.os, hb.tape.trans hg.tape, hb.output.trans hg.output, Nat.le_trans hg.size hb.size, fun k hk hn => (hb.block k (Nat.lt_of_lt_of_le hk hg.size) (fun e => by
    rcases hat with h | h
    · exact hn (h.symm.trans e)
    · rw [h] at e
      injection e with e
      omega)).trans (hg.block k hk (fun e => hn e.symm))⟩
theorem RowF.step {base : Nat} {w w' : World} {v v' : Value} {p : List FV} (h : RowF base w v p) {y : FV} (hg : w.grownBy w' v.ownBlock) (hown : w'.ownsRow base 38 2 v' (p.length + 1) (fCells p ++ fCells [y]))
    (hat : v'.ownBlock = v.ownBlock ∨ v'.ownBlock = some w.heap.size) (hy : ∀ w5, But (fun b => v.ownBlock = some b) w w5 → FOk w5 [y]) : RowF base w' v' (p ++ [y]) := by
  refine ⟨by rw [List.length_append, fCells_app]; exact hown, fun w5 hb x hx => ?_⟩
  have hb3 := but_back hg hat hb
  rcases List.mem_append.1 hx with hx | hx
  · exact h.cl w5 hb3 x hx
  · exact hy w5 hb3 x hx
set_option maxRecDepth 100000 in
theorem wpList_appF1 {ops : Array Oper} {rest : List Oper} {o : Oper} {a : Act} {Q : Exit → Act → World → Prop} (w : World) (hgd : o.guard = none) (s x : Operand)
    (ho : o.op = .call { callee := .builtin .append, args := #[s, x], argTypes := #[35, 35] })
    (base : Nat) (v : Value) (p : List FV) (hs : a.eval s = v) (hown : RowF base w v p)
    (g c : Nat) (y : FV) (hx : a.eval x = .slice (some ⟨g, 0, none⟩) 1 c) (hB : Blk w g 38 #[y.2.1, y.2.2]) (hy : ∀ w5, But (fun b => v.ownBlock = some b) w w5 → FOk w5 [y]) (hn : p.length < 1000) (hbase : base ≤ w.heap.size)
    (h : ∀ v' w', RowF base w' v' (p ++ [y]) → w.grownBy w' v.ownBlock → wpList Tryz.prog ops Q rest (a.put o.dst v') w') : wpList Tryz.prog ops Q (o :: rest) a w := by
  obtain ⟨i0, hi, hz0, hz1, hz2⟩ := info_parts form_infoK
  refine wpList_append_own_at w hgd s x _ ho base _ i0 _ 2 48 Tryz.underlying35 hi hz0 hz1 hz2 rfl (by decide) v p.length (fCells p) hs hown.own ⟨g, 0, none⟩ 1 c (fCells [y]) hx (fCells_len [y]) ?_ (fCells_one (hy w (But.refl _ _))) (by unfold maxLen; omega) (by omega) hbase (fun v' w' h1 h2 _ h4 => h v' w' (hown.step h2 h1 h4 hy) h2)
  intro j u hj
  exact World.news_of_block (cs := #[y.2.1, y.2.2]) hB j u hj
set_option maxHeartbeats 2000000 in
set_option maxRecDepth 100000 in
theorem logG_All {C : Nat → Prop} (j : Nat) (u : Int) (ls : List Venn.Form) (bs : ByteArray) (safe : Nat) (left : Int) (st : Bool) (w : World) (h : LogC C w j u ls bs safe left st) (hok : ∀ f ∈ ls, Venn.formChk f = 0) (h6 : ls.length ≤ 90) :
    Calls Tryz.prog 10 #[.pointer (some ⟨j, 0, none⟩)] w (fun e w' => ∃ A n c, e = .returned (.slice A n c) ∧ Below w.heap.size w w' ∧ IsForms w' (.slice A n c) ls) := by
  obtain ⟨A, c, p, h1, hp, -, -, h5⟩ := h
  obtain ⟨x0, x1, x2, x3, x4, x5⟩ := h1.cells6
  have HPL := Lib.hid (show p.length = ls.length by rw [← hp]; simp)
  have HR := Lib.hid (h5 w (But.refl _ _)).1
  have HO := Lib.hid (h5 w (But.refl _ _)).2
  have HOK := Lib.hid (show ∀ x ∈ p, Venn.formChk x.1 = 0 from fun x hx => hok _ (by rw [← hp]; exact List.mem_map_of_mem hx))
  subst hp
  have h90 : p.length ≤ 90 := by simpa using h6
  clear h1 h5 hok HPL h6
  go_enter Tryz.func10, Tryz.ntmps10
  go_wp2
  go_loopw [3, 11] (fun v i wr => ∃ (k : Nat) (q : List FV), k ≤ p.length ∧ i = .int .i64 k ∧ q.length = k ∧ RowF w.heap.size wr v q ∧ q.map (fun x : FV => x.1) = (p.take k).map (fun x : FV => x.1) ∧ Below w.heap.size w wr) (fun _ i _ => p.length - (intOf i).toNat)
  case atStart => exact ⟨0, [], Nat.zero_le _, rfl, rfl, RowF.nil _ _, rfl, Below.refl _ _⟩
  case round =>
    clear x0 x1 x2 x3 x4 x5
    obtain ⟨k, q, hk, rfl, hql, hown, hqm, hbw⟩ := hrel
    obtain ⟨wo, rfl⟩ : ∃ wo : World, wo = wr := ⟨_, rfl⟩
    obtain ⟨V0, k0, rfl⟩ := hown.slice
    have HOW := Lib.hid hown
    have HQM := Lib.hid hqm
    have HQL := Lib.hid hql
    clear hown hqm hql
    by_cases hlt : k < p.length
    · obtain ⟨⟨⟨fl, fc⟩, fa, fd⟩, hx⟩ : ∃ x : FV, p[k]? = some x := ⟨p[k], List.getElem?_eq_getElem hlt⟩
      obtain ⟨g0, g1⟩ := fCells_at p k _ hx
      obtain ⟨ad2, e2, hd0⟩ := HR.out _ _ g0
      obtain ⟨ad3, e3, hd1⟩ := HR.out _ _ g1
      subst e2
      cases e3
      rw [adr_add _ _ _ (by decide)] at hd1
      obtain ⟨hfa, hfd⟩ := HO.out _ (List.mem_of_getElem? hx)
      have hfk := HOK.out _ (List.mem_of_getElem? hx)
      have HTK := Lib.hid (show (p.take (k + 1)).map (fun x : FV => x.1) = (p.take k).map (fun x : FV => x.1) ++ [⟨fl, fc⟩] by rw [List.take_add_one, hx, List.map_append]; rfl)
      simp only at hd0 hd1 hfa hfd hfk
      have d0 := cell_keep hbw hd0
      have d1 := cell_keep hbw hd1
      have HFO := Lib.hid (fun W (hW : Below wo.heap.size wo W) => form_Own _ _ fl fc W ((hfa.keep hbw).keep hW) ((hfd.keep hbw).keep hW) hfk)
      obtain ⟨FA, fA, rfl⟩ := hfa.slice
      obtain ⟨FD, fD, rfl⟩ := hfd.slice
      have hk1 : (k : Int) < (p.length : Int) := by omega
      have hk0 : (0 : Int) ≤ (k : Int) := by omega
      have hki : IntKind.i64.wrap ((k : Int) + 1) = (k : Int) + 1 := IntWalk.i64_in _ (by omega)
      have hal : Below wo.heap.size wo (wo.alloc (.cells #[.slice FA fl.length fA, .slice FD fc.length fD] 38)) := by have w := wo; (repeat' (first | (with_reducible exact Below.refl _ _) | (with_reducible assumption) | (with_reducible refine Below.next ?_ (by with_reducible assumption)) | (with_reducible refine Below.drew ?_) | (with_reducible refine Below.laid ?_ _) | (with_reducible refine Below.setCell ?_ ?_ _) | (with_reducible refine size_of ?_) | (with_reducible refine Nat.le_succ_of_le ?_) | go_size))
      clear hd0 hd1 hx g0 g1 hfk
      go_wp2_with fail
      refine (HFO.out _ hal).mono ?_
      rintro e w2 ⟨r, ga, ka, gc, kc, rfl, hb2, hql, HQ⟩
      have hb02 := Below.next hal hb2
      have BN := Lib.hid (Blk.new w2 38 #[.slice (some ⟨ga, 0, none⟩) fl.length ka, .slice (some ⟨gc, 0, none⟩) fc.length kc])
      have hal2 : Below w2.heap.size w2 (w2.alloc (.cells #[.slice (some ⟨ga, 0, none⟩) fl.length ka, .slice (some ⟨gc, 0, none⟩) fc.length kc] 38)) := by have w := w2; (repeat' (first | (with_reducible exact Below.refl _ _) | (with_reducible assumption) | (with_reducible refine Below.next ?_ (by with_reducible assumption)) | (with_reducible refine Below.drew ?_) | (with_reducible refine Below.laid ?_ _) | (with_reducible refine Below.setCell ?_ ?_ _) | (with_reducible refine size_of ?_) | (with_reducible refine Nat.le_succ_of_le ?_) | go_size))
      have hb03 := Below.next hb02 hal2
      have HY := Lib.hid (show ∀ w5, But (fun b => (Value.slice V0 q.length k0).ownBlock = some b) (w2.alloc (.cells #[.slice (some ⟨ga, 0, none⟩) fl.length ka, .slice (some ⟨gc, 0, none⟩) fc.length kc] 38)) w5 → FOk w5 [((⟨fl, fc⟩ : Venn.Form), .slice (some ⟨ga, 0, none⟩) fl.length ka, .slice (some ⟨gc, 0, none⟩) fc.length kc)] from fun w5 h5 x hx => by
        rw [List.mem_singleton.1 hx]
        have hQ5 := (HQ.keep hal2).but h5 (fun b e => by have := (HOW.out.own.lt b e).2; simp; omega)
        have := hQ5.isAtoms
        rw [hql] at this
        exact ⟨this, hQ5.isInts⟩)
      have HRO := Lib.hid (HOW.out.keep hb03)
      have hbase : w.heap.size ≤ (w2.alloc (.cells #[.slice (some ⟨ga, 0, none⟩) fl.length ka, .slice (some ⟨gc, 0, none⟩) fc.length kc] 38)).heap.size := (Below.next hbw hb03).size
      have hq90 : q.length < 1000 := by have := HQL.out; omega
      clear HQ hql d0 d1
      go_wp2_with (at_builtin; refine wpList_appF1 _ rfl _ _ rfl w.heap.size _ q rfl HRO.out w2.heap.size 1 ((⟨fl, fc⟩ : Venn.Form), .slice (some ⟨ga, 0, none⟩) fl.length ka, .slice (some ⟨gc, 0, none⟩) fc.length kc) (by simp [go_sem]) BN.out HY.out hq90 hbase ?_)
      intro v' w4 hown4 hg4
      have hbel := (Below.next hbw hb03).grown hg4 hbase (fun b e => (HOW.out.own.lt b e).1)
      have HO4 := Lib.hid hown4
      clear hown4 hg4
      go_wp2
      go_roundw
      case rel => exact ⟨k + 1, _, by omega, by go_num, by simp [HQL.out], HO4.out, by rw [HTK.out, ← HQM.out, List.map_append]; rfl, hbel⟩
      case measure => simp [intOf]; omega
    · have hk' : k = p.length := by omega
      have HF := Lib.hid (show IsForms wo (.slice V0 q.length k0) (p.map (fun x : FV => x.1)) by
        have h := HOW.out.forms
        rwa [HQM.out, hk', List.take_of_length_le (Nat.le_refl _)] at h)
      have hk1 : ¬ (k : Int) < (p.length : Int) := by omega
      clear hk'
      go_wp2
      go_ret
      exact ⟨V0, _, k0, rfl, hbw, HF.out⟩
theorem strings_Count1 (s : ByteArray) (w : World) : Calls Tryz.prog 32 #[.string s, .string ⟨#[10]⟩] w (Pure (.int .i64 (s.data.toList.count 10 : Nat)) w) :=
  (Any.strings_Count_one countL s 10 w).mono fun _ _ ⟨h1, h2⟩ => ⟨h1, h2.symm⟩
theorem strings_LastIndex1 (s : ByteArray) (w : World) (hs : s.size < 4611686018427387904) : Calls Tryz.prog 31 #[.string s, .string ⟨#[10]⟩] w (Pure (.int .i64 (Lib.lastIndexByte s 10)) w) :=
  (Any.strings_LastIndex_one lastL s ⟨#[10]⟩ rfl hs w).mono fun _ _ ⟨h1, h2⟩ => ⟨h1, h2.symm⟩
/-- So many bytes are looked at behind a crash. -/
def keptM (n safe : Nat) (keep : Int) : Nat := safe + (max 0 (min keep ((n : Int) - (safe : Int)))).toNat
set_option maxHeartbeats 4000000 in
set_option maxRecDepth 100000 in
theorem logG_Crash {C : Nat → Prop} (j : Nat) (u : Int) (l : List Rec) (part : List UInt8) (bs : ByteArray) (safe : Nat) (left : Int) (st : Bool) (keep : Int) (w : World) (h : LogC C w j u (saidF l) bs safe left st)
    (hbs : bs.data.toList = recsB l ++ part) (hp : (10 : UInt8) ∉ part) (hok : ∀ r ∈ l, Venn.atomChk r.1 = 0) (hs : safe ≤ bs.size) (hz : bs.size ≤ 2147483648) :
    Calls Tryz.prog 9 #[.pointer (some ⟨j, 0, none⟩), .int .i64 keep] w (fun e w' => e = .returned (.tuple #[]) ∧ But (fun b => b = j) w w' ∧
      LogC C w' j u (saidF (l.take (wholeN l (keptM bs.size safe keep)))) ⟨(recsB (l.take (wholeN l (keptM bs.size safe keep)))).toArray⟩ (recsB (l.take (wholeN l (keptM bs.size safe keep)))).length (-1) false) := by
  obtain ⟨A, c, p, h1, h2, h3, h4, h5⟩ := h
  have hm1 : (keptM bs.size safe keep : Int) = (safe : Int) + max 0 (min keep ((bs.size : Int) - (safe : Int))) := by unfold keptM; omega
  have hm2 : keptM bs.size safe keep ≤ bs.size := by unfold keptM; omega
  have hpl : p.length = l.length := by have := congrArg List.length h2; simpa [saidF] using this
  generalize keptM bs.size safe keep = m at hm1 hm2 ⊢
  have hbd : (bs.extract 0 m).data.toList = (recsB l ++ part).take m := by rw [Lib.extract_from_zero, hbs]
  obtain ⟨hc1, hc2, hc3⟩ := crash_cut (b := bs.extract 0 m) hok hp hbd
  have hwl := wholeN_le l m
  have hrc := recs_count (l.take (wholeN l m)) (fun r hr => hok r (List.mem_of_mem_take hr))
  have hbl : (recsB (l.take (wholeN l m))).length ≤ (bs.extract 0 m).size := by
    have := congrArg List.length hc3
    rw [List.length_take] at this
    have e : (bs.extract 0 m).data.toList.length = (bs.extract 0 m).size := rfl
    omega
  have hsz : (bs.extract 0 m).size = m := by rw [ByteArray.size_extract]; omega
  have HQ := Lib.hid (show ((bs.extract 0 m).extract 0 (recsB (l.take (wholeN l m))).length) = ⟨(recsB (l.take (wholeN l m))).toArray⟩ by
    apply ByteArray.ext
    apply Array.toList_inj.1
    rw [Lib.extract_from_zero, hc3])
  have HSF := Lib.hid (show saidF (l.take (wholeN l m)) = (p.take (wholeN l m)).map (fun x : FV => x.1) by rw [List.map_take, h2]; unfold saidF; rw [List.map_take])
  have hkl : (l.take (wholeN l m)).length = wholeN l m := by rw [List.length_take]; omega
  rw [hkl] at hrc
  have HRC := Lib.hid (show (⟨(recsB (l.take (wholeN l m))).toArray⟩ : ByteArray).data.toList.count 10 = wholeN l m from hrc)
  have HRZ := Lib.hid (show (⟨(recsB (l.take (wholeN l m))).toArray⟩ : ByteArray).size = (recsB (l.take (wholeN l m))).length from by show (recsB (l.take (wholeN l m))).toArray.size = _; simp)
  rw [HSF.out]
  clear hbs hp hok hbd hc3 hrc HSF h2 hkl
  generalize wholeN l m = k at hwl hbl hc1 HQ HRC HRZ ⊢
  generalize recsB (l.take k) = RB at hbl hc1 HQ HRC HRZ ⊢
  generalize hBB : bs.extract 0 m = B at hc1 hc2 hbl hsz HQ
  generalize hRR : (⟨RB.toArray⟩ : ByteArray) = RR at HQ HRC HRZ ⊢
  generalize hqn : RB.length = Q at hc1 hbl HQ HRZ ⊢
  generalize hLI : Lib.lastIndexByte B 10 = LI at hc1 hc2
  have hLQ : LI + 1 = (Q : Int) := by omega
  have HC := Lib.hid (fun W => strings_Count1 RR W)
  rw [HRC.out] at HC
  have HL := Lib.hid (fun W => strings_LastIndex1 B W (by omega))
  rw [hLI] at HL
  have hx1 : IntKind.i64.wrap ((bs.size : Int) - (safe : Int)) = (bs.size : Int) - (safe : Int) := IntWalk.i64_in _ (by omega)
  have hx2 : IntKind.i64.wrap ((safe : Int) + max 0 (min keep ((bs.size : Int) - (safe : Int)))) = (m : Int) := by rw [← hm1]; exact IntWalk.i64_in _ (by omega)
  have hx3 : IntKind.i64.wrap (LI + 1) = (Q : Int) := by rw [hLQ]; exact IntWalk.i64_in _ (by omega)
  have hm3 : (m : Int) ≤ (bs.size : Int) := by omega
  have hm0 : (0 : Int) ≤ (m : Int) := by omega
  have hq0 : (0 : Int) ≤ (Q : Int) := by omega
  have hq1 : (Q : Int) ≤ (B.size : Int) := by omega
  have hk0 : (0 : Int) ≤ (k : Int) := by omega
  have hk1 : (k : Int) ≤ (c : Int) := by omega
  have hk2 : k ≤ c := by omega
  have HCL := Lib.hid (show ∀ W, But (fun b => b = j) w W → LClC C W j A (p.take k) from fun W hW w' hw' => by
    obtain ⟨r1, r2⟩ := h5 w' (hW.orl.trans hw')
    refine ⟨fun i x hx => r1 i x ?_, fun x hx => r2 x (List.mem_of_mem_take hx)⟩
    have e : fCells p = fCells (p.take k) ++ fCells (p.drop k) := by rw [← fCells_app, List.take_append_drop]
    rw [e, List.getElem?_append_left (List.getElem?_eq_some_iff.1 hx).1]
    exact hx)
  have hkp : (p.take k).length = k := by rw [List.length_take]; omega
  have HB1 := Lib.hid h1
  have H4 := Lib.hid h4
  obtain ⟨x0, x1, x2, x3, x4, x5⟩ := h1.cells6
  clear h1 h3 h4 h5 hc1 hc2 hLQ hm1 hm2 hz hwl hpl hsz hs hbl
  go_enter Tryz.func9, Tryz.ntmps9
  go_upto_region 0 with (fail)
  go_quiet (fail)
  clear x0 x1 x2 x3 x4 x5
  generalize hW : World.drewN _ _ = w1
  have BW1 := Lib.hid (show Blk w1 j 61 #[.int .i64 u, .slice A p.length c, .string bs, .int .i64 safe, .int .i64 left, .bool st] by rw [← hW]; exact HB1.out.drewN _)
  have HBU := Lib.hid (show But (fun b => b = j) w w1 by rw [← hW]; exact ⟨rfl, rfl, rfl, Nat.le_refl _, fun _ _ _ => rfl⟩)
  clear hW
  have hqr : B.extract 0 Q = RR := HQ.out
  obtain ⟨x0, x1, x2, x3, x4, x5⟩ := BW1.out.cells6
  have z1 := BW1.out.frozen 1
  go_wp2_with fail
  refine (HL.out _).mono ?_
  rintro e w' ⟨rfl, rfl⟩
  go_upto_region 2 with (fail)
  go_region_law (go_simp; go_at_call 32; refine (HC.out _).mono ?_; rintro e w' ⟨rfl, rfl⟩)
  all_goals
    go_upto_region 3 with (fail)
    clear x0 x1 x2 x3 x4 x5 z1
    have G1 := Lib.hid (show Blk ((w1.setCell ⟨j, 1, none⟩ (.slice A k c)).drew) j 61 #[.int .i64 u, .slice A k c, .string bs, .int .i64 safe, .int .i64 left, .bool st] by simpa using (BW1.out.set_ 1 (.slice A k c)).drew)
    have H1 := Lib.hid (show But (fun b => b = j) w ((w1.setCell ⟨j, 1, none⟩ (.slice A k c)).drew) from (But.set_ (C := fun b => b = j) HBU.out (p := ⟨j, 1, none⟩) rfl (.slice A k c)).drew)
    generalize (w1.setCell ⟨j, 1, none⟩ (.slice A k c)).drew = w2 at G1 H1 ⊢
    obtain ⟨x0, x1, x2, x3, x4, x5⟩ := G1.out.cells6
    have z2 := G1.out.frozen 2
    have z3 := G1.out.frozen 3
    have z4 := G1.out.frozen 4
    have z5 := G1.out.frozen 5
    have hrz := HRZ.out
    have GF := Lib.hid (show Blk ((((w2.setCell ⟨j, 2, none⟩ (.string RR)).setCell ⟨j, 3, none⟩ (.int .i64 Q)).setCell ⟨j, 4, none⟩ (.int .i64 (-1))).setCell ⟨j, 5, none⟩ (.bool false)) j 61 #[.int .i64 u, .slice A k c, .string RR, .int .i64 Q, .int .i64 (-1), .bool false] by
      simpa using (((G1.out.set_ 2 (.string RR)).set_ 3 (.int .i64 Q)).set_ 4 (.int .i64 (-1))).set_ 5 (.bool false))
    have GB := Lib.hid (But.set_ (C := fun b => b = j) (But.set_ (C := fun b => b = j) (But.set_ (C := fun b => b = j) (But.set_ (C := fun b => b = j) H1.out (p := ⟨j, 2, none⟩) rfl (.string RR)) (p := ⟨j, 3, none⟩) rfl (.int .i64 Q)) (p := ⟨j, 4, none⟩) rfl (.int .i64 (-1))) (p := ⟨j, 5, none⟩) rfl (.bool false))
    have HKP := Lib.hid hkp
    have HK2 := Lib.hid hk2
    clear hkp
    go_wp2
    clear x0 x1 x2 x3 x4 x5 z2 z3 z4 z5
    revert GF GB
    generalize World.setCell _ _ _ = Wf
    intro GF GB
    exact bodyPost_end (results_none rfl _ _ _) rfl ⟨rfl, GB.out, A, c, p.take k, by rw [HKP.out]; exact GF.out, rfl, by rw [HKP.out]; exact HK2.out, H4.out, HCL.out _ GB.out⟩
end Go.Proofs.YtjnjgcibhjdmdaaGreatDoor

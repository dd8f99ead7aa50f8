/-
  PROVED: vennlaw4.SpanAll answers true, at any name and number. No condition beyond the card's own list.
-/
import Derived.Test.YtpcdiilgomfpbaaDoorSpan
import Derived.Test.YtpcdiilgomfpbaaDoorSome
import Derived.Test.YtpcdiilgomfpbaaDoorKindsLaw
import Derived.Test.YtpcdiilgomfpbaaDoorOpenW
import Derived.Deep.RegionLaw
namespace Go.Proofs.YtpcdiilgomfpbaaDoor
open Go.ChangeShapes Go.WideShapes Go.ChangeAt Go.RowKit

theorem all_lit {t : List Int} (h : Venn.termChk t = 0) {u : Int} (hu : Venn.things u = true) {lo hi : Nat → Int} (hl : Venn.spanLit t lo hi = true) (h0 : ∀ n, 0 ≤ hi n) :
    Venn.spanChk Venn.allForm t u = 0 ∧ Venn.spanV Venn.allForm t u = (lo u.toNat, hi u.toNat) := by
  have hu' : 0 ≤ u ∧ u ≤ 6 := by simpa [Venn.things] using hu
  have hg := Venn.span_lit hl hu'
  have hc : Venn.spanChk Venn.allForm t u = 0 := by
    rw [spanChk_parts (by decide) h hu, hg, if_neg]
    have := h0 u.toNat
    simp only
    omega
  exact ⟨hc, by rw [Venn.spanV, if_pos hc, hg]⟩
theorem exact_lit {t : List Int} (h : Venn.termChk t = 0) {u : Int} (hu : Venn.things u = true) {lo hi : Nat → Int} (hl : Venn.spanLit t lo hi = true) (h0 : ∀ n, 0 ≤ hi n) (he : lo u.toNat = hi u.toNat) :
    exactVv Venn.allForm t u = .tuple #[.int .i64 (lo u.toNat), .nilIface] := by
  obtain ⟨h1, h2⟩ := all_lit h hu hl h0
  have hc : Venn.exactChk Venn.allForm t u = 0 := by rw [Venn.exactChk, if_pos h1, h2, if_pos he]
  rw [exactVv, Venn.exactV, if_pos hc, hc, h2]; rfl
theorem exact_bad {u : Int} (hu : Venn.things u = false) : exactVv Venn.allForm [4] u = .tuple #[.int .i64 0, .iface 111 (.int .i64 1)] := by
  have hc : Venn.spanChk Venn.allForm [4] u = 1 := by rw [Venn.spanChk, if_pos (by decide), if_pos (by decide), hu]; rfl
  have he : Venn.exactChk Venn.allForm [4] u = 1 := by rw [Venn.exactChk, hc]; rfl
  rw [exactVv, Venn.exactV, he]; rfl

theorem boxesAB {w w1 : World} {tA tB : TypeId} {x y : Array Value} (hb : Below ((w.alloc (.cells x tA)).alloc (.cells y tB)).heap.size ((w.alloc (.cells x tA)).alloc (.cells y tB)) w1) : Blk w1 w.heap.size tA x ∧ Blk w1 (w.heap.size + 1) tB y :=
  ⟨((Blk.new _ _ _).alloc _).keep hb, (Blk.newAt (by simp) _ _).keep hb⟩
set_option maxHeartbeats 4000000 in
set_option maxRecDepth 100000 in
theorem spanAll_walk (name u : Int) (w : World) (hk : KindsOk w) : Calls Tryd.prog 6 #[.int .i64 name, .int .i64 u] w (Keeps (.bool true) w) := by
  have HK := Lib.hid hk
  clear hk
  cases hu : Venn.things u
  · have HX := Lib.hid (exact_bad hu)
    have hu' : u < 0 ∨ 6 < u := by simp [Venn.things] at hu; omega
    clear hu
    rcases (by omega : u < 0 ∨ (¬ u < 0 ∧ 6 < u)) with h0 | ⟨h0, h6⟩
    all_goals
      go_enter Tryd.func6, Tryd.ntmps6
      go_wp2_with (first
        | (go_at_call 27; refine (vennlaw4_atomOf 4 0 _).mono ?_; rintro e w1 ⟨A1, C1, rfl, hb1, hA1, hC1⟩)
        | (go_at_call 28; refine (span_Exact _ _ _ [⟨3, [4], [], 0⟩] [0] [4] u _ (hA1.keep (by (repeat' (first | (with_reducible exact Below.refl _ _) | (with_reducible refine Below.next ?_ (by with_reducible assumption)) | (with_reducible refine Below.drew ?_) | (with_reducible refine Below.laid ?_ _) | (with_reducible refine Below.setCell ?_ ?_ _) | (with_reducible refine size_of ?_) | (with_reducible refine Nat.le_succ_of_le ?_) | go_size)))) (hC1.keep (by (repeat' (first | (with_reducible exact Below.refl _ _) | (with_reducible refine Below.next ?_ (by with_reducible assumption)) | (with_reducible refine Below.drew ?_) | (with_reducible refine Below.laid ?_ _) | (with_reducible refine Below.setCell ?_ ?_ _) | (with_reducible refine size_of ?_) | (with_reducible refine Nat.le_succ_of_le ?_) | go_size)))) (IsInts.of_blk1 (Blk.newAt (by simp) _ _)) (HK.out.keep (by (repeat' (first | (with_reducible exact Below.refl _ _) | (with_reducible refine Below.next ?_ (by with_reducible assumption)) | (with_reducible refine Below.drew ?_) | (with_reducible refine Below.laid ?_ _) | (with_reducible refine Below.setCell ?_ ?_ _) | (with_reducible refine size_of ?_) | (with_reducible refine Nat.le_succ_of_le ?_) | go_size))))).mono ?_; rintro e w2 ⟨rfl, hb2⟩; rw [HX.out]))
      go_ret
      exact ⟨rfl, by (repeat' (first | (with_reducible exact Below.refl _ _) | (with_reducible refine Below.next ?_ (by with_reducible assumption)) | (with_reducible refine Below.drew ?_) | (with_reducible refine Below.laid ?_ _) | (with_reducible refine Below.setCell ?_ ?_ _) | (with_reducible refine size_of ?_) | (with_reducible refine Nat.le_succ_of_le ?_) | go_size))⟩
  · have hu' : 0 ≤ u ∧ u ≤ 6 := by simpa [Venn.things] using hu
    have HX := Lib.hid (exact_lit (t := [4]) (by decide) hu Venn.span_lit4 (fun n => by omega) rfl)
    have HY := Lib.hid (exact_lit (t := [3]) (by decide) hu Venn.span_lit3 (fun n => by omega) rfl)
    simp only [show ((u.toNat : Nat) : Int) = u by omega] at HX HY
    by_cases hn : name < 0 ∨ 2 < name
    · obtain ⟨P, M, EV, hES⟩ : ∃ P M EV, spanVv Venn.allForm [name] u = .tuple #[.agg #[.int .i64 P, .int .i64 M], EV] := ⟨_, _, _, rfl⟩
      have HZ := Lib.hid hES
      clear hES hu
      rcases (by omega : name < 0 ∨ (¬ name < 0 ∧ 2 < name)) with h0 | ⟨h0, h6⟩
      all_goals
        clear hn
        go_enter Tryd.func6, Tryd.ntmps6
        go_wp2_with (first
          | (go_at_call 27; refine (vennlaw4_atomOf 4 0 _).mono ?_; rintro e w1 ⟨A1, C1, rfl, hb1, hA1, hC1⟩)
          | (go_at_call 28; refine (span_Exact _ _ _ [⟨3, [4], [], 0⟩] [0] [4] u _ (hA1.keep (by (repeat' (first | (with_reducible exact Below.refl _ _) | (with_reducible refine Below.next ?_ (by with_reducible assumption)) | (with_reducible refine Below.drew ?_) | (with_reducible refine Below.laid ?_ _) | (with_reducible refine Below.setCell ?_ ?_ _) | (with_reducible refine size_of ?_) | (with_reducible refine Nat.le_succ_of_le ?_) | go_size)))) (hC1.keep (by (repeat' (first | (with_reducible exact Below.refl _ _) | (with_reducible refine Below.next ?_ (by with_reducible assumption)) | (with_reducible refine Below.drew ?_) | (with_reducible refine Below.laid ?_ _) | (with_reducible refine Below.setCell ?_ ?_ _) | (with_reducible refine size_of ?_) | (with_reducible refine Nat.le_succ_of_le ?_) | go_size)))) (IsInts.of_blk1 (Blk.newAt (by simp) _ _)) (HK.out.keep (by (repeat' (first | (with_reducible exact Below.refl _ _) | (with_reducible refine Below.next ?_ (by with_reducible assumption)) | (with_reducible refine Below.drew ?_) | (with_reducible refine Below.laid ?_ _) | (with_reducible refine Below.setCell ?_ ?_ _) | (with_reducible refine size_of ?_) | (with_reducible refine Nat.le_succ_of_le ?_) | go_size))))).mono ?_; rintro e w2 ⟨rfl, hb2⟩; rw [HX.out]; have BX := (boxesAB hb2).1; obtain ⟨f0, f1⟩ := BX.cells2.1; have hl2 := BX.lt)
          | (go_at_call 28; refine (span_Exact _ _ _ [⟨3, [4], [], 0⟩] [0] [3] u _ (hA1.keep (by (repeat' (first | (with_reducible exact Below.refl _ _) | (with_reducible refine Below.next ?_ (by with_reducible assumption)) | (with_reducible refine Below.drew ?_) | (with_reducible refine Below.laid ?_ _) | (with_reducible refine Below.setCell ?_ ?_ _) | (with_reducible refine size_of ?_) | (with_reducible refine Nat.le_succ_of_le ?_) | go_size)))) (hC1.keep (by (repeat' (first | (with_reducible exact Below.refl _ _) | (with_reducible refine Below.next ?_ (by with_reducible assumption)) | (with_reducible refine Below.drew ?_) | (with_reducible refine Below.laid ?_ _) | (with_reducible refine Below.setCell ?_ ?_ _) | (with_reducible refine size_of ?_) | (with_reducible refine Nat.le_succ_of_le ?_) | go_size)))) (IsInts.of_blk1 (Blk.newAt (by simp) _ _)) (HK.out.keep (by (repeat' (first | (with_reducible exact Below.refl _ _) | (with_reducible refine Below.next ?_ (by with_reducible assumption)) | (with_reducible refine Below.drew ?_) | (with_reducible refine Below.laid ?_ _) | (with_reducible refine Below.setCell ?_ ?_ _) | (with_reducible refine size_of ?_) | (with_reducible refine Nat.le_succ_of_le ?_) | go_size))))).mono ?_; rintro e w3 ⟨rfl, hb3⟩; rw [HY.out]; have BY := (BX.alloc _).keep hb3; obtain ⟨g0, g1⟩ := BY.cells2.1; have hl3 := BY.lt)
          | (go_at_call 29; refine (span_Of _ _ _ [⟨3, [4], [], 0⟩] [0] [name] u _ (hA1.keep (by (repeat' (first | (with_reducible exact Below.refl _ _) | (with_reducible refine Below.next ?_ (by with_reducible assumption)) | (with_reducible refine Below.drew ?_) | (with_reducible refine Below.laid ?_ _) | (with_reducible refine Below.setCell ?_ ?_ _) | (with_reducible refine size_of ?_) | (with_reducible refine Nat.le_succ_of_le ?_) | go_size)))) (hC1.keep (by (repeat' (first | (with_reducible exact Below.refl _ _) | (with_reducible refine Below.next ?_ (by with_reducible assumption)) | (with_reducible refine Below.drew ?_) | (with_reducible refine Below.laid ?_ _) | (with_reducible refine Below.setCell ?_ ?_ _) | (with_reducible refine size_of ?_) | (with_reducible refine Nat.le_succ_of_le ?_) | go_size)))) (IsInts.of_blk1 (Blk.newAt (by simp) _ _)) (HK.out.keep (by (repeat' (first | (with_reducible exact Below.refl _ _) | (with_reducible refine Below.next ?_ (by with_reducible assumption)) | (with_reducible refine Below.drew ?_) | (with_reducible refine Below.laid ?_ _) | (with_reducible refine Below.setCell ?_ ?_ _) | (with_reducible refine size_of ?_) | (with_reducible refine Nat.le_succ_of_le ?_) | go_size))))).mono ?_; rintro e w4 ⟨rfl, hb4⟩; rw [HZ.out]))
        go_ret
        exact ⟨rfl, by (repeat' (first | (with_reducible exact Below.refl _ _) | (with_reducible refine Below.next ?_ (by with_reducible assumption)) | (with_reducible refine Below.drew ?_) | (with_reducible refine Below.laid ?_ _) | (with_reducible refine Below.setCell ?_ ?_ _) | (with_reducible refine size_of ?_) | (with_reducible refine Nat.le_succ_of_le ?_) | go_size))⟩
    · have HZ := Lib.hid (show spanVv Venn.allForm [name] u = .tuple #[.agg #[.int .i64 0, .int .i64 u], .nilIface] by
        rcases (by omega : name = 0 ∨ name = 1 ∨ name = 2) with rfl | rfl | rfl
        · obtain ⟨h1, h2⟩ := all_lit (t := [0]) (by decide) hu Venn.span_lit0 (fun n => by omega)
          rw [spanVv, h1, h2]
          simp only [show ((u.toNat : Nat) : Int) = u by omega]; rfl
        · obtain ⟨h1, h2⟩ := all_lit (t := [1]) (by decide) hu Venn.span_lit1 (fun n => by omega)
          rw [spanVv, h1, h2]
          simp only [show ((u.toNat : Nat) : Int) = u by omega]; rfl
        · obtain ⟨h1, h2⟩ := all_lit (t := [2]) (by decide) hu Venn.span_lit2 (fun n => by omega)
          rw [spanVv, h1, h2]
          simp only [show ((u.toNat : Nat) : Int) = u by omega]; rfl)
      have hn0 : ¬ name < 0 := by omega
      have hn2 : ¬ 2 < name := by omega
      clear hn hu
      go_enter Tryd.func6, Tryd.ntmps6
      go_wp2_with (first
        | (go_at_call 27; refine (vennlaw4_atomOf 4 0 _).mono ?_; rintro e w1 ⟨A1, C1, rfl, hb1, hA1, hC1⟩)
        | (go_at_call 28; refine (span_Exact _ _ _ [⟨3, [4], [], 0⟩] [0] [4] u _ (hA1.keep (by (repeat' (first | (with_reducible exact Below.refl _ _) | (with_reducible refine Below.next ?_ (by with_reducible assumption)) | (with_reducible refine Below.drew ?_) | (with_reducible refine Below.laid ?_ _) | (with_reducible refine Below.setCell ?_ ?_ _) | (with_reducible refine size_of ?_) | (with_reducible refine Nat.le_succ_of_le ?_) | go_size)))) (hC1.keep (by (repeat' (first | (with_reducible exact Below.refl _ _) | (with_reducible refine Below.next ?_ (by with_reducible assumption)) | (with_reducible refine Below.drew ?_) | (with_reducible refine Below.laid ?_ _) | (with_reducible refine Below.setCell ?_ ?_ _) | (with_reducible refine size_of ?_) | (with_reducible refine Nat.le_succ_of_le ?_) | go_size)))) (IsInts.of_blk1 (Blk.newAt (by simp) _ _)) (HK.out.keep (by (repeat' (first | (with_reducible exact Below.refl _ _) | (with_reducible refine Below.next ?_ (by with_reducible assumption)) | (with_reducible refine Below.drew ?_) | (with_reducible refine Below.laid ?_ _) | (with_reducible refine Below.setCell ?_ ?_ _) | (with_reducible refine size_of ?_) | (with_reducible refine Nat.le_succ_of_le ?_) | go_size))))).mono ?_; rintro e w2 ⟨rfl, hb2⟩; rw [HX.out]; have BX := (boxesAB hb2).1; obtain ⟨f0, f1⟩ := BX.cells2.1; have hl2 := BX.lt)
        | (go_at_call 28; refine (span_Exact _ _ _ [⟨3, [4], [], 0⟩] [0] [3] u _ (hA1.keep (by (repeat' (first | (with_reducible exact Below.refl _ _) | (with_reducible refine Below.next ?_ (by with_reducible assumption)) | (with_reducible refine Below.drew ?_) | (with_reducible refine Below.laid ?_ _) | (with_reducible refine Below.setCell ?_ ?_ _) | (with_reducible refine size_of ?_) | (with_reducible refine Nat.le_succ_of_le ?_) | go_size)))) (hC1.keep (by (repeat' (first | (with_reducible exact Below.refl _ _) | (with_reducible refine Below.next ?_ (by with_reducible assumption)) | (with_reducible refine Below.drew ?_) | (with_reducible refine Below.laid ?_ _) | (with_reducible refine Below.setCell ?_ ?_ _) | (with_reducible refine size_of ?_) | (with_reducible refine Nat.le_succ_of_le ?_) | go_size)))) (IsInts.of_blk1 (Blk.newAt (by simp) _ _)) (HK.out.keep (by (repeat' (first | (with_reducible exact Below.refl _ _) | (with_reducible refine Below.next ?_ (by with_reducible assumption)) | (with_reducible refine Below.drew ?_) | (with_reducible refine Below.laid ?_ _) | (with_reducible refine Below.setCell ?_ ?_ _) | (with_reducible refine size_of ?_) | (with_reducible refine Nat.le_succ_of_le ?_) | go_size))))).mono ?_; rintro e w3 ⟨rfl, hb3⟩; rw [HY.out]; have BY := (BX.alloc _).keep hb3; obtain ⟨g0, g1⟩ := BY.cells2.1; have hl3 := BY.lt)
        | (go_at_call 29; refine (span_Of _ _ _ [⟨3, [4], [], 0⟩] [0] [name] u _ (hA1.keep (by (repeat' (first | (with_reducible exact Below.refl _ _) | (with_reducible refine Below.next ?_ (by with_reducible assumption)) | (with_reducible refine Below.drew ?_) | (with_reducible refine Below.laid ?_ _) | (with_reducible refine Below.setCell ?_ ?_ _) | (with_reducible refine size_of ?_) | (with_reducible refine Nat.le_succ_of_le ?_) | go_size)))) (hC1.keep (by (repeat' (first | (with_reducible exact Below.refl _ _) | (with_reducible refine Below.next ?_ (by with_reducible assumption)) | (with_reducible refine Below.drew ?_) | (with_reducible refine Below.laid ?_ _) | (with_reducible refine Below.setCell ?_ ?_ _) | (with_reducible refine size_of ?_) | (with_reducible refine Nat.le_succ_of_le ?_) | go_size)))) (IsInts.of_blk1 (Blk.newAt (by simp) _ _)) (HK.out.keep (by (repeat' (first | (with_reducible exact Below.refl _ _) | (with_reducible refine Below.next ?_ (by with_reducible assumption)) | (with_reducible refine Below.drew ?_) | (with_reducible refine Below.laid ?_ _) | (with_reducible refine Below.setCell ?_ ?_ _) | (with_reducible refine size_of ?_) | (with_reducible refine Nat.le_succ_of_le ?_) | go_size))))).mono ?_; rintro e w4 ⟨rfl, hb4⟩; rw [HZ.out]))
      go_ret
      exact ⟨rfl, by (repeat' (first | (with_reducible exact Below.refl _ _) | (with_reducible refine Below.next ?_ (by with_reducible assumption)) | (with_reducible refine Below.drew ?_) | (with_reducible refine Below.laid ?_ _) | (with_reducible refine Below.setCell ?_ ?_ _) | (with_reducible refine size_of ?_) | (with_reducible refine Nat.le_succ_of_le ?_) | go_size))⟩

set_option maxRecDepth 100000 in
theorem spanAll_contract (H : Type) (enc : TypeId × Value → H) (W : World) (base : Nat) (args : Array Value) (ds gs : List (DataW H)) (before : List MemPlace)
    (hval : ∀ (j : Nat) t v, Tryd.f6.params[j]? = some t → args[j]? = some v → Value.okWide Tryd.prog W .any base t v)
    (hW : DataW.Whole enc Tryd.prog Tryd.f6.params.toList Rows.spanAllSpec.vars false W args.toList ds gs before) (hL : laidMetH Tryd.prog Rows.spanAllRow.laid W)
    : Calls Tryd.prog 6 args W fun e W' => ∃ v, e = .returned v ∧ Rows.spanAllSpec.post enc Tryd.prog Tryd.f6 false true false false W args v W' := by
  have hW' := hW
  obtain ⟨p, q, hA0, hV, rfl, hfz, hnd⟩ := hW
  have hA : DataW.TrodAll enc Tryd.prog W 0 (fun _ => true) true Tryd.f6.params.toList args.toList ds p := hA0
  rw [Tryd.params6] at hA hval
  obtain ⟨v0, vs0, d0, ds0, p0, q0, hargs, rfl, rfl, h0, r0⟩ := trodAll_cons hA
  obtain ⟨v1, vs1, d1, ds1, p1, q1, rfl, rfl, rfl, h1, r1⟩ := trodAll_cons r0
  obtain ⟨rfl, rfl, rfl⟩ := trodAll_nil r1
  obtain rfl : args = #[v0, v1] := by cases args; simp_all
  obtain ⟨rfl, rfl⟩ := trodVars_none hV
  have HKI : KindsOk W := kinds_of_laid hL (by repeat (first | exact List.Mem.head _ | apply List.Mem.tail))
  obtain ⟨n, rfl, rfl, rfl, wn⟩ := open_int Tryd.underlying3 (hval 0 3 v0 rfl rfl) h0
  obtain ⟨m, rfl, rfl, rfl, wm⟩ := open_int Tryd.underlying3 (hval 1 3 v1 rfl rfl) h1
  clear hA0
  refine (spanAll_walk n m W HKI).mono fun e W' ⟨he, hw⟩ => ?_
  subst he
  exact ⟨_, rfl, law_post laidOut Tryd.underlying4 (by kernel_rfl) rfl (by kernel_rfl) hW' rfl hw⟩

theorem spanAll_met (os : Os) : laidMetH Tryd.prog Rows.spanAllRow.laid ((World.doorLaid Tryd.prog 400 os).forCall (fun _ _ => 0) ⟨#[], #[.int .i64 0, .int .i64 0], []⟩).memory :=
  laidMetH_of_parts3 (fuel := 8) (laidMet_of_run' 8 (by kernel_rfl) (by kernel_rfl)) (by kernel_rfl) (by kernel_rfl)

set_option maxRecDepth 100000 in
theorem spanAll_lifted (os : Os) (started : os.Started) (H : Type) (enc : TypeId × Value → H) (F : Stop.Interp) :
    ReturnsInHanded {} Tryd.checked os 6 .any ((OpenSpec.ofChange Rows.spanAllSpec).preRow enc Tryd.prog Tryd.f6 Rows.spanAllRow.domain false Rows.spanAllRow.laid) (((OpenSpec.ofChange Rows.spanAllSpec).at F).post enc Tryd.prog Tryd.f6 false true false false) := by
  refine returnsInHanded_of_row (C := Tryd.checked) (s := (OpenSpec.ofChange Rows.spanAllSpec)) own started (by kernel_rfl) Tryd.func6
    (witness_row_at (enc := enc) (C := Tryd.checked) false (World.doorLaid Tryd.prog 400 os) #[.int .i64 0, .int .i64 0] rfl (by kernel_rfl) (by kernel_rfl) (by kernel_rfl)
      (OpenSpec.preRow_of_cond 8 (x := ([.lit (.int .i64 0), .lit (.int .i64 0)], [], [])) (by kernel_rfl) (by kernel_rfl) (fun k hk => by cases hk) (by kernel_rfl) (spanAll_met os))) ?_
  intro W base args ds gs before hval hW _ HKU _ hL _ _
  exact spanAll_contract H enc W base args ds gs before hval hW hL

theorem spanAll_said : Rows.SpanAllSaid :=
  OpenClaim.holds_of_cond 6 Tryd.f6 rfl rfl rfl rfl rfl rfl rfl ⟨rfl, rfl, rfl, rfl, rfl⟩ rfl rfl rfl rfl rfl (by kernel_rfl) Tryd.func6 (by kernel_rfl)
    (of_decide_eq_true (by kernel_rfl)) (by unfold Func.isWrapper; first | (rw [if_pos (by decide +kernel)]; kernel_rfl) | (rw [if_neg (by decide +kernel)]; exact ⟨rfl, rfl⟩))
    (fun os started H enc _ F => by rw [OpenClaim.pre_eq_preRow]; exact spanAll_lifted os started H enc F)

theorem spanAll_plain (f : FuncId) (fn : Func) (hf : Tryd.pinned.checked.prog.funcNamed "vennhouse/vennlaw4.SpanAll" = some f) (hfn : Tryd.pinned.checked.prog.funcs[f]? = some fn) :
    true = Tryd.pinned.checked.prog.looks [] ∧ ∀ (j : Nat) t, fn.params[j]? = some t → Tryd.pinned.checked.prog.wantsStandIn t = false := by
  obtain rfl : f = 6 := Option.some.inj ((show Tryd.prog.funcNamed "vennhouse/vennlaw4.SpanAll" = some 6 by kernel_rfl).symm.trans hf) |>.symm
  obtain rfl : fn = Tryd.f6 := (Option.some.inj (Tryd.func6.symm.trans hfn)).symm
  refine ⟨by kernel_rfl, fun j t ht => ?_⟩
  rw [Tryd.params6] at ht
  have ht' := Array.mem_of_getElem? ht
  have hall : ∀ t ∈ (#[3, 3] : Array TypeId), Tryd.prog.wantsStandIn t = false := fun t ht => by
    simp only [List.mem_toArray, List.mem_cons, List.not_mem_nil, or_false] at ht
    rcases ht with rfl | rfl
    all_goals kernel_rfl
  exact hall t ht'

theorem spanAll_holds : Rows.SpanAllCardSaid :=
  Claim7.holds_tied_plain_at .later [] _ _ _ _ spanAll_said (fun _ h => by cases h) (by kernel_rfl) (fun _ h => by cases h) spanAll_row_tie rfl ⟨rfl, rfl⟩ (by kernel_rfl) rfl spanAll_plain (by kernel_rfl)
#print axioms spanAll_holds
end Go.Proofs.YtpcdiilgomfpbaaDoor

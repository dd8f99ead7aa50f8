/-
  THE WALKS of the reference's Cut, Digits, Number.
-/
import Derived.Test.YtcloppcekbdbaaaGreatDoorStrs
import Derived.Test.YtcloppcekbdbaaaGreatDoorVennCut
import Derived.Test.YtcloppcekbdbaaaGreatDoorRefText
import Derived.Deep.QuietTactic
import Derived.BigQuiet
namespace Go.Proofs.YtcloppcekbdbaaaGreatDoor
open Go.RowKit

/-- A slice of texts reads as l. -/
def IsStrs (w : World) (v : Value) (l : List ByteArray) : Prop := ∃ A c, v = .slice A l.length c ∧ Rd w A (l.map Value.string) ∧ l.length ≤ c ∧ c ≤ maxLen
theorem IsStrs.keep {w w' : World} {v : Value} {l : List ByteArray} (h : IsStrs w v l) (hb : Below w.heap.size w w') : IsStrs w' v l := by
  obtain ⟨A, c, hv, hr, hc⟩ := h
  exact ⟨A, c, hv, hr.keep hb, hc⟩
theorem IsStrs.nil (w : World) : IsStrs w (.slice none 0 0) [] := ⟨none, 0, rfl, Rd.nil _ _, Nat.le_refl _, by simp⟩
theorem Rd.str {w : World} {A : Option Addr} {l : List ByteArray} (h : Rd w A (l.map Value.string)) {k : Nat} (hk : k < l.length) : ∃ ad, A = some ad ∧ w.cell? (ad.add k) = some (.string l[k]) :=
  h k _ (by simp [hk])
theorem IsStrs.of_own {w : World} {base : Nat} {e : TypeId} {v : Value} {n : Nat} {l : List ByteArray} (h : w.ownsRow base e 1 v n (l.map Value.string)) : IsStrs w v l := by
  have hn : n = l.length := by have := h.1; simpa using this.symm
  subst hn
  rcases h.2 with ⟨rfl, hl⟩ | ⟨g, cap, cur, rfl, _, hh, hnc, hcm, hcs, ht⟩
  · have : l = [] := List.eq_nil_of_length_eq_zero hl
    subst this
    exact ⟨none, 0, rfl, Rd.nil _ _, Nat.le_refl _, by simp⟩
  · exact ⟨_, _, rfl, fun j u hj => ⟨_, rfl, h.cells (g := g) rfl j u hj⟩, hnc, hcm⟩
/-- A text cut at each byte c, as texts. -/
def cutB (c : UInt8) (s : ByteArray) : List ByteArray := (Venn.cutL c s.data.toList).map fun l => ⟨l.toArray⟩
theorem cutB_length (c : UInt8) (s : ByteArray) : (cutB c s).length = (Venn.cutL c s.data.toList).length := by simp [cutB]
theorem cutB_data (c : UInt8) (s : ByteArray) : (cutB c s).map (·.data.toList) = Venn.cutL c s.data.toList := by
  unfold cutB
  rw [List.map_map]
  conv => rhs; rw [← List.map_id (Venn.cutL c s.data.toList)]
  exact List.map_congr_left fun l _ => by simp
theorem strs_inj {l m : List ByteArray} (h : l.map (·.data.toList) = m.map (·.data.toList)) : l = m := by
  have inj : ∀ a b : ByteArray, a.data.toList = b.data.toList → a = b := fun a b h => by
    cases a with | mk x => cases b with | mk y => exact congrArg _ (Array.toList_inj.1 h)
  induction l generalizing m with
  | nil => cases m with | nil => rfl | cons b t => simp at h
  | cons a r ih =>
    cases m with
    | nil => simp at h
    | cons b t =>
      simp only [List.map_cons, List.cons.injEq] at h
      rw [inj a b h.1, ih h.2]
theorem take_drop_snoc (l : List UInt8) (f k : Nat) (b : UInt8) (r : List UInt8) (hf : f ≤ k) (hd : l.drop k = b :: r) : (l.take (k + 1)).drop f = (l.take k).drop f ++ [b] ∧ l.take (k + 1) = l.take k ++ [b] := by
  have hk : l[k]? = some b := by
    have h0 : (l.drop k)[0]? = some b := by rw [hd]; rfl
    rwa [List.getElem?_drop, Nat.add_zero] at h0
  have hlt : k < l.length := (List.getElem?_eq_some_iff.1 hk).1
  have e : l.take (k + 1) = l.take k ++ [b] := by rw [List.take_add_one, hk]; rfl
  refine ⟨?_, e⟩
  rw [e, List.drop_append_of_le_length (by simp; omega)]
set_option maxHeartbeats 4000000 in
set_option maxRecDepth 100000 in
theorem ref_Cut (s : ByteArray) (c : UInt8) (w : World) (hs : s.size < 4294967281) :
    Calls Tryz.prog 77 #[.string s, .int .u8 ((c.toNat : Nat) : Int)] w (fun e w' => ∃ v, e = .returned v ∧ Below w.heap.size w w' ∧ IsStrs w' v (cutB c s)) := by
  go_enter Tryz.func77, Tryz.ntmps77
  go_wp2
  go_loopw [5, 6, 7] (fun v fv i wr => ∃ (k f : Nat) (done : List ByteArray), k ≤ s.size ∧ f ≤ k ∧ i = .int .i64 k ∧ fv = .int .i64 f ∧ done.length ≤ k ∧ wr.ownsRow w.heap.size 9 1 v done.length (done.map Value.string) ∧ Below w.heap.size w wr ∧
      done.map (·.data.toList) ++ [(s.data.toList.take k).drop f] = Venn.cutL c (s.data.toList.take k))
    (fun _ _ i _ => s.size - (intOf i).toNat)
  case atStart => exact ⟨0, 0, [], Nat.zero_le _, Nat.le_refl _, rfl, rfl, Nat.le_refl _, World.ownsRow_nil _ _ _ _, by (repeat' (first | (with_reducible exact Below.refl _ _) | (with_reducible assumption) | (with_reducible refine Below.next ?_ (by with_reducible assumption)) | (with_reducible refine Below.drew ?_) | (with_reducible refine Below.laid ?_ _) | (with_reducible refine Below.setCell ?_ ?_ _) | (with_reducible refine size_of ?_) | (with_reducible refine Nat.le_succ_of_le ?_) | go_size)), by simp [Venn.cutL]⟩
  case round =>
    obtain ⟨k, f, done, hk, hf, rfl, rfl, hdl, hown, hb, hrest⟩ := hrel
    obtain ⟨wo, rfl⟩ : ∃ wo : World, wo = wr := ⟨_, rfl⟩
    obtain ⟨A5, cp5, rfl⟩ := ownsRow_slice hown
    have HR := Lib.hid hrest
    have HDL := Lib.hid hdl
    clear hrest hdl
    by_cases hlt : k < s.size
    · have hk1 : (k : Int) < (s.size : Int) := by omega
      have hk0 : (0 : Int) ≤ (k : Int) := by omega
      have hki : IntKind.i64.wrap ((k : Int) + 1) = (k : Int) + 1 := IntWalk.i64_in _ (by omega)
      obtain ⟨h1, h2⟩ := take_drop_snoc s.data.toList f k s[k] _ hf (drop_bytes s k hlt)
      have HSN := Lib.hid (Venn.cutL_snoc c s[k] (s.data.toList.take k))
      by_cases hbc : s[k] = c
      · have hbt : ((((s[k]).toNat : Nat) : Int) == ((c.toNat : Nat) : Int)) = true := by rw [hbc]; simp
        have HV := Lib.hid (show (done ++ [s.extract f k]).map (·.data.toList) ++ [(s.data.toList.take (k + 1)).drop (k + 1)] = Venn.cutL c (s.data.toList.take (k + 1)) by
          rw [h2, HSN.out, if_pos hbc, ← HR.out, List.map_append, ← h2, List.drop_eq_nil_of_le (by simp; omega)]
          congr 2
          simp only [List.map_cons, List.map_nil]
          rw [Lib.extract_data, List.drop_take])
        clear h1 h2 hbc
        have hfk : (f : Int) ≤ (k : Int) := by omega
        have hf0 : (0 : Int) ≤ (f : Int) := by omega
        have hdn : done.length < 1099511627776 := by have := HDL.out; omega
        go_wp2_with (at_builtin; refine wpList_app1s _ rfl _ _ rfl w.heap.size _ _ _ rfl (hown.alloc _) wo.heap.size 1 (s.extract f k) rfl ?hy1 (by omega) (by have := hb.size; simp; omega) ?_)
        try case hy1 => simp
        intro v' w1 hown' hg'
        go_wp2
        go_roundw
        case rel =>
          refine ⟨k + 1, k + 1, done ++ [s.extract f k], by omega, Nat.le_refl _, by go_num, by go_num, by have := HDL.out; simp; omega, by simpa using hown', ?_, HV.out⟩
          have hbs := hb.size
          exact (hb.alloc hbs _).grown hg' (by simp; omega) (fun g h => (hown.lt g h).1)
        case measure => simp [intOf]; omega
      · have hbt : ((((s[k]).toNat : Nat) : Int) == ((c.toNat : Nat) : Int)) = false := by
          apply beq_eq_false_iff_ne.2
          intro h
          apply hbc
          apply UInt8.toNat_inj.1
          omega
        have HV := Lib.hid (show done.map (·.data.toList) ++ [(s.data.toList.take (k + 1)).drop f] = Venn.cutL c (s.data.toList.take (k + 1)) by
          rw [h1, h2, HSN.out, if_neg hbc, ← HR.out]
          simp)
        clear h1 h2 hbc
        go_wp2
        go_roundw
        case rel => exact ⟨k + 1, f, done, by omega, by omega, by go_num, rfl, by have := HDL.out; omega, hown, hb, HV.out⟩
        case measure => simp [intOf]; omega
    · obtain rfl : k = s.size := by omega
      have hk1 : ¬ (s.size : Int) < (s.size : Int) := by omega
      have hfk : (f : Int) ≤ (s.size : Int) := by omega
      have hf0 : (0 : Int) ≤ (f : Int) := by omega
      have hdn : done.length < 1099511627776 := by have := HDL.out; omega
      have HV := Lib.hid (show done ++ [s.extract f s.size] = cutB c s from strs_inj (by
        have h := HR.out
        rw [List.take_of_length_le (by exact Nat.le_refl _)] at h
        rw [cutB_data, ← h, List.map_append]
        simp only [List.map_cons, List.map_nil]
        rw [Lib.extract_to_end]))
      go_wp2_with (at_builtin; refine wpList_app1s _ rfl _ _ rfl w.heap.size _ _ _ rfl (hown.alloc _) wo.heap.size 1 (s.extract f s.size) rfl ?hy2 (by omega) (by have := hb.size; simp; omega) ?_)
      try case hy2 => simp
      intro v' w1 hown' hg'
      go_wp2
      go_ret
      refine ⟨_, rfl, ?_, ?_⟩
      · have hbs := hb.size
        exact (hb.alloc hbs _).grown hg' (by simp; omega) (fun g h => (hown.lt g h).1)
      · rw [← HV.out]
        exact IsStrs.of_own (l := done ++ [s.extract f s.size]) (by simpa using hown')

theorem nDigits_le : ∀ u : Nat, Lib.nDigits u ≤ u + 1 := by
  intro u
  induction u using Nat.strongRecOn with
  | _ u ih =>
    by_cases h : u < 10
    · rw [Lib.nDigits_small h]; omega
    · rw [Lib.nDigits_big h]
      have := ih (u / 10) (by omega)
      omega
theorem str_cat (a b : List UInt8) : (⟨a.toArray⟩ : ByteArray) ++ ⟨b.toArray⟩ = ⟨(a ++ b).toArray⟩ := by
  apply ByteArray.ext
  simp
theorem digit_cut : ∀ i : Fin 10, (⟨#[48, 49, 50, 51, 52, 53, 54, 55, 56, 57]⟩ : ByteArray).extract i.val (i.val + 1) = ⟨#[UInt8.ofNat (48 + i.val)]⟩ := by decide +kernel
set_option maxHeartbeats 4000000 in
set_option maxRecDepth 100000 in
theorem ref_Digits : ∀ (n : Nat) (w : World), n < 1000000000 → Calls Tryz.prog 73 #[.int .i64 n] w (Pure (.string ⟨(Lib.decDigits n).toArray⟩) w) := by
  intro n
  induction n using Nat.strongRecOn with
  | _ n ih =>
    intro w hn
    by_cases h : n < 10
    · have HD := Lib.hid (Lib.decDigits_one h)
      rw [HD.out]
      clear ih hn HD
      rcases (by omega : n = 0 ∨ n = 1 ∨ n = 2 ∨ n = 3 ∨ n = 4 ∨ n = 5 ∨ n = 6 ∨ n = 7 ∨ n = 8 ∨ n = 9) with rfl | rfl | rfl | rfl | rfl | rfl | rfl | rfl | rfl | rfl
      all_goals
        go_enter Tryz.func73, Tryz.ntmps73
        go_wp2
        go_ret
        exact ⟨rfl, rfl⟩
    · have HD := Lib.hid (show Lib.decDigits n = Lib.decDigits (n / 10) ++ [UInt8.ofNat (48 + n % 10)] by rw [Lib.decDigits, dif_neg h])
      have HI := Lib.hid (ih (n / 10) (by omega) w (by omega))
      have hm : (n : Int).tmod 10 = ((n % 10 : Nat) : Int) := by rw [Int.tmod_eq_emod_of_nonneg (by omega)]; omega
      have hq : (n : Int).tdiv 10 = ((n / 10 : Nat) : Int) := by rw [Int.tdiv_eq_ediv_of_nonneg (by omega)]; omega
      have hlt : ¬ ((n : Int) < 10) := by omega
      have hk : n % 10 < 10 := Nat.mod_lt _ (by decide)
      have HL := Lib.hid (show (⟨(Lib.decDigits (n / 10)).toArray⟩ : ByteArray).size ≤ 1000000001 by
        have h9 := nDigits_le (n / 10)
        have e : (⟨(Lib.decDigits (n / 10)).toArray⟩ : ByteArray).size = (Lib.decDigits (n / 10)).length := by show (Lib.decDigits (n / 10)).toArray.size = _; simp
        rw [e, Lib.decDigits_length]; omega)
      rw [HD.out]
      clear ih HD h
      generalize n % 10 = k at hm hk ⊢
      have hqb : n / 10 < 1000000000 := by omega
      generalize n / 10 = q at hq HI HL hqb ⊢
      have hwq : IntKind.i64.wrap (q : Int) = (q : Int) := IntWalk.i64_in _ (by omega)
      generalize Lib.decDigits q = S at HI HL ⊢
      have hadd : ∀ (i j : Nat) (W : World), (Op.stringOp .add ⟨S.toArray⟩ ((⟨#[48, 49, 50, 51, 52, 53, 54, 55, 56, 57]⟩ : ByteArray).extract i j)).run Tryz.prog W = .ok (.string (⟨S.toArray⟩ ++ (⟨#[48, 49, 50, 51, 52, 53, 54, 55, 56, 57]⟩ : ByteArray).extract i j)) W := fun i j W => run_string_add_sum W _ _ (by
        have h2 : ((⟨#[48, 49, 50, 51, 52, 53, 54, 55, 56, 57]⟩ : ByteArray).extract i j).size ≤ 10 := by
          rw [ByteArray.size_extract]
          have : (⟨#[48, 49, 50, 51, 52, 53, 54, 55, 56, 57]⟩ : ByteArray).size = 10 := rfl
          omega
        have := HL.out
        omega)
      have hk0 : (0 : Int) ≤ (k : Int) := by omega
      have hk9 : (k : Int) + 1 ≤ 10 := by omega
      have hkk : (k : Int) ≤ (k : Int) + 1 := by omega
      have hki : IntKind.i64.wrap ((k : Int) + 1) = (k : Int) + 1 := IntWalk.i64_in _ (by omega)
      have hwk : IntKind.i64.wrap (k : Int) = (k : Int) := IntWalk.i64_in _ (by omega)
      go_enter Tryz.func73, Tryz.ntmps73
      go_wp2_with fail
      refine (HI.out).mono ?_
      rintro e w' ⟨rfl, rfl⟩
      rcases (by omega : k = 0 ∨ k = 1 ∨ k = 2 ∨ k = 3 ∨ k = 4 ∨ k = 5 ∨ k = 6 ∨ k = 7 ∨ k = 8 ∨ k = 9) with rfl | rfl | rfl | rfl | rfl | rfl | rfl | rfl | rfl | rfl
      all_goals
        go_wp2
        go_ret
        exact ⟨congrArg Ending.returned (str_app2 S _ _ rfl), rfl⟩
set_option maxHeartbeats 1000000 in
set_option maxRecDepth 100000 in
theorem ref_Number (n : Int) (w : World) (h : -1000000000 < n ∧ n < 1000000000) : Calls Tryz.prog 83 #[.int .i64 n] w (Pure (.string ⟨(Lib.itoa n).toArray⟩) w) := by
  by_cases hn : n < 0
  · obtain ⟨u, rfl⟩ : ∃ u : Nat, n = -(u : Int) := ⟨n.natAbs, by omega⟩
    have HD := Lib.hid (ref_Digits u w (by omega))
    have HV := Lib.hid (Lib.itoa_neg u (by omega))
    rw [HV.out]
    have HL := Lib.hid (show (⟨(Lib.decDigits u).toArray⟩ : ByteArray).size ≤ 1000000001 by
      have h9 := nDigits_le u
      have e : (⟨(Lib.decDigits u).toArray⟩ : ByteArray).size = (Lib.decDigits u).length := by show (Lib.decDigits u).toArray.size = _; simp
      rw [e, Lib.decDigits_length]; omega)
    have hneg : IntKind.i64.wrap (-(-(u : Int))) = (u : Int) := by rw [Int.neg_neg]; exact IntWalk.i64_in _ (by omega)
    clear HV
    generalize Lib.decDigits u = S at HD HL ⊢
    have hadd : ∀ (W : World), (Op.stringOp .add ⟨#[45]⟩ ⟨S.toArray⟩).run Tryz.prog W = .ok (.string (⟨#[45]⟩ ++ ⟨S.toArray⟩)) W := fun W => run_string_add_sum W _ _ (by
      have := HL.out
      have : (⟨#[45]⟩ : ByteArray).size = 1 := rfl
      omega)
    go_enter Tryz.func83, Tryz.ntmps83
    go_wp2_with fail
    refine (HD.out).mono ?_
    rintro e w' ⟨rfl, rfl⟩
    go_wp2
    go_ret
    exact ⟨congrArg (fun x => Ending.returned (Value.string x)) (str_cat [45] S), rfl⟩
  · obtain ⟨u, rfl⟩ : ∃ u : Nat, n = (u : Int) := ⟨n.toNat, by omega⟩
    have HD := Lib.hid (ref_Digits u w (by omega))
    have HV := Lib.hid (Lib.itoa_nonneg u)
    rw [HV.out]
    clear HV
    go_enter Tryz.func83, Tryz.ntmps83
    go_wp2_with fail
    refine (HD.out).mono ?_
    rintro e w' ⟨rfl, rfl⟩
    go_wp2
    go_ret
    exact ⟨rfl, rfl⟩
end Go.Proofs.YtcloppcekbdbaaaGreatDoor

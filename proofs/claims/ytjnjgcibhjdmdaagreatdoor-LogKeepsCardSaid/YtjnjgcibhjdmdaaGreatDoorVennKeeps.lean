/-
  HOW THE LOG STANDS, as LogKeeps asks it: its calls as contracts.
-/
import Derived.Test.YtjnjgcibhjdmdaaGreatDoorLogGSay
import Derived.Test.YtjnjgcibhjdmdaaGreatDoorLogGAll
import Derived.Test.YtjnjgcibhjdmdaaGreatDoorLawF
import Derived.Test.YtjnjgcibhjdmdaaGreatDoorVennLog
namespace Go.Proofs.YtjnjgcibhjdmdaaGreatDoor
open Go.RowKit

theorem kp_chk {l : List Rec} (h : ∀ r ∈ l, Venn.atomChk r.1 = 0) : ∀ f ∈ saidF l, Venn.formChk f = 0 := fun f hf => by
  obtain ⟨r, hr, rfl⟩ := List.mem_map.1 hf
  exact alone_okG (h r hr) r.2
theorem kp_len (l : List Rec) : (saidF l).length = l.length := by simp [saidF]
theorem kp_size {l : List Rec} (h : ∀ r ∈ l, Venn.atomChk r.1 = 0) : (recsB l).length ≤ 86 * l.length := by
  induction l with
  | nil => simp [recsB]
  | cons r l ih =>
    rw [recsB_cons, List.length_append, recB_len, List.length_cons]
    have := textA_le (h r (by simp))
    have := ih fun x hx => h x (List.mem_cons_of_mem _ hx)
    omega
theorem kp_cat (a b : List UInt8) : (⟨a.toArray⟩ : ByteArray) ++ ⟨b.toArray⟩ = ⟨(a ++ b).toArray⟩ := by
  apply ByteArray.ext
  simp
theorem kp_bsz (a : List UInt8) : (⟨a.toArray⟩ : ByteArray).size = a.length := by show a.toArray.size = _; rw [List.size_toArray]
theorem kp_snoc (l : List Rec) (a : Venn.Atom) (b : Bool) : saidF (l ++ [(a, b)]) = saidF l ++ [Venn.aloneF a b] := by simp [saidF]
theorem kp_half (a : Venn.Atom) (h : Bool) : halfBA a h = ⟨((recB (a, h)).take ((recB (a, h)).length / 2)).toArray⟩ := by
  have h1 : (recBA a h).size = (recB (a, h)).length := kp_bsz _
  unfold halfBA
  rw [h1]
  apply ByteArray.ext
  apply Array.toList_inj.1
  rw [Lib.extract_from_zero]
  simp [recBA]
theorem kp_half_none {a : Venn.Atom} (h : Venn.atomChk a = 0) (b : Bool) : (10 : UInt8) ∉ (recB (a, b)).take ((recB (a, b)).length / 2) := by
  obtain ⟨x, hx, hn⟩ := recB_parts (r := (a, b)) h
  rw [hx, List.take_append_of_le_length (by simp; omega)]
  exact fun hm => hn (List.mem_of_mem_take hm)
theorem sayE_zero {a : Venn.Atom} {b : Bool} {u : Int} {ls : List Venn.Form} (h : sayE a b u ls = 0) : Venn.atomChk a = 0 ∧ ls.length < 6 ∧ Venn.openV (ls ++ [Venn.aloneF a b]) u = true := by
  unfold sayE at h
  have ka : Venn.atomChk a = 0 := by
    by_cases ha : Venn.atomChk a ≠ 0
    · rw [if_pos ha] at h; exact h
    · exact Decidable.not_not.1 ha
  rw [if_neg (by simpa using ka)] at h
  have k6 : ¬ 6 ≤ ls.length := fun k => by rw [if_pos k] at h; cases h
  rw [if_neg k6] at h
  refine ⟨ka, by omega, ?_⟩
  by_cases ho : Venn.openV (ls ++ [Venn.aloneF a b]) u = true
  · exact ho
  · rw [if_neg ho] at h; cases h
/-- HOW THE LOG STANDS: what was said; so many bytes, and so many of them safe. -/
def KpSt (C : Nat → Prop) (w : World) (j : Nat) (u : Int) (rec : List Rec) (b s : Nat) : Prop :=
  rec.length ≤ 6 ∧ (∀ r ∈ rec, Venn.atomChk r.1 = 0) ∧ Venn.openV (saidF rec) u = true ∧ s ≤ (recsB rec).length ∧
  ∃ (part : List UInt8) (left : Int) (st : Bool), (10 : UInt8) ∉ part ∧ part.length ≤ 100 ∧ (st = false → part = []) ∧ -1 ≤ left ∧ left ≤ 9223372036854775807 ∧ b = (recsB rec ++ part).length ∧ LogC C w j u (saidF rec) ⟨(recsB rec ++ part).toArray⟩ s left st
theorem KpSt.keep {C : Nat → Prop} {w w' : World} {j : Nat} {u : Int} {rec : List Rec} {b s : Nat} (h : KpSt C w j u rec b s) (hb : Below w.heap.size w w') : KpSt C w' j u rec b s := by
  obtain ⟨h1, h2, h3, h4, part, left, st, p1, p2, p3, p4, p5, p6, hl⟩ := h
  exact ⟨h1, h2, h3, h4, part, left, st, p1, p2, p3, p4, p5, p6, hl.keep hb⟩
/-- .. whatever becomes of the blocks of C. -/
theorem LogC.but {C C' : Nat → Prop} {w w' : World} {j : Nat} {u : Int} {ls : List Venn.Form} {bs : ByteArray} {safe : Nat} {left : Int} {st : Bool} (h : LogC C w j u ls bs safe left st) (hj : ∀ t cs, Blk w j t cs → Blk w' j t cs)
    (hc : ∀ W, But (fun b => b = j ∨ C' b) w' W → But (fun b => b = j ∨ C b) w W) : LogC C' w' j u ls bs safe left st := by
  obtain ⟨A, c, p, h1, h2, h3, h4, h5⟩ := h
  exact ⟨A, c, p, hj _ _ h1, h2, h3, h4, fun W hW => h5 W (hc W hW)⟩
theorem KpSt.but {C C' : Nat → Prop} {w w' : World} {j : Nat} {u : Int} {rec : List Rec} {b s : Nat} (h : KpSt C w j u rec b s) (hj : ∀ t cs, Blk w j t cs → Blk w' j t cs)
    (hc : ∀ W, But (fun b => b = j ∨ C' b) w' W → But (fun b => b = j ∨ C b) w W) : KpSt C' w' j u rec b s := by
  obtain ⟨h1, h2, h3, h4, part, left, st, p1, p2, p3, p4, p5, p6, hl⟩ := h
  exact ⟨h1, h2, h3, h4, part, left, st, p1, p2, p3, p4, p5, p6, hl.but hj hc⟩
theorem kp_New (C : Nat → Prop) (u : Int) (w : World) (hu : Venn.things u = true) :
    Calls Tryz.prog 6 #[.int .i64 u] w (fun e w' => e = .returned (.tuple #[.pointer (some ⟨w.heap.size, 0, none⟩), .nilIface]) ∧ Below w.heap.size w w' ∧ KpSt C w' w.heap.size u [] 0 0) := by
  refine (logC_New C u w hu).mono ?_
  rintro e w' ⟨rfl, hb, hl⟩
  exact ⟨rfl, hb, by decide, (fun r hr => absurd hr (by simp)), Venn.open_nil hu, Nat.le_refl _, [], -1, false, by simp, by simp, fun _ => rfl, by decide, by decide, rfl, hl⟩
theorem kp_Fail {C : Nat → Prop} (j : Nat) (u : Int) (rec : List Rec) (b s : Nat) (n : Int) (w : World) (h : KpSt C w j u rec b s) (hn : n ≤ 9223372036854775807) :
    Calls Tryz.prog 19 #[.pointer (some ⟨j, 0, none⟩), .int .i64 n] w (fun e w' => e = .returned (.tuple #[]) ∧ But (fun b => b = j) w w' ∧ KpSt C w' j u rec b s) := by
  obtain ⟨h1, h2, h3, h4, part, left, st, p1, p2, p3, p4, p5, p6, hl⟩ := h
  refine (logG_Fail j u _ _ s left st n w hl).mono ?_
  rintro e w' ⟨rfl, hb, hl'⟩
  exact ⟨rfl, hb, h1, h2, h3, h4, part, max (-1) n, st, p1, p2, p3, by omega, by omega, p6, hl'⟩
theorem kp_Bytes {C : Nat → Prop} (j : Nat) (u : Int) (rec : List Rec) (b s : Nat) (w : World) (h : KpSt C w j u rec b s) :
    Calls Tryz.prog 17 #[.pointer (some ⟨j, 0, none⟩)] w (Pure (.int .i64 (b : Nat)) w) := by
  obtain ⟨-, -, -, -, part, left, st, -, -, -, -, -, rfl, hl⟩ := h
  have h := logG_Bytes j u _ _ s left st w hl
  rwa [kp_bsz] at h
theorem kp_Safe {C : Nat → Prop} (j : Nat) (u : Int) (rec : List Rec) (b s : Nat) (w : World) (h : KpSt C w j u rec b s) :
    Calls Tryz.prog 18 #[.pointer (some ⟨j, 0, none⟩)] w (Pure (.int .i64 (s : Nat)) w) := by
  obtain ⟨-, -, -, -, part, left, st, -, -, -, -, -, rfl, hl⟩ := h
  exact logG_Safe j u _ _ s left st w hl
theorem kp_All {C : Nat → Prop} (j : Nat) (u : Int) (rec : List Rec) (b s : Nat) (w : World) (h : KpSt C w j u rec b s) :
    Calls Tryz.prog 10 #[.pointer (some ⟨j, 0, none⟩)] w (fun e w' => ∃ A c, e = .returned (.slice A rec.length c) ∧ Below w.heap.size w w' ∧ IsForms w' (.slice A rec.length c) (saidF rec)) := by
  obtain ⟨h1, h2, -, -, part, left, st, -, -, -, -, -, rfl, hl⟩ := h
  refine (logG_All j u _ _ s left st w hl (kp_chk h2) (by rw [kp_len]; omega)).mono ?_
  rintro e w' ⟨A, n, c, rfl, hb, hf⟩
  obtain ⟨rfl⟩ : n = rec.length := by
    obtain ⟨_, _, e, _⟩ := hf
    injection e with _ e _
    rw [e, kp_len]
  exact ⟨A, c, rfl, hb, hf⟩
theorem kp_Open {C : Nat → Prop} (j : Nat) (u : Int) (rec : List Rec) (b s : Nat) (w : World) (h : KpSt C w j u rec b s) (hk : KindsOk w) (hu : Venn.things u = true) :
    Calls Tryz.prog 11 #[.pointer (some ⟨j, 0, none⟩)] w (Keeps (.bool true) w) := by
  obtain ⟨h1, h2, h3, -, part, left, st, -, -, -, -, -, rfl, hl⟩ := h
  have h := logG_Open j u _ _ s left st w hl hk (kp_chk h2) hu
  rwa [h3] at h
/-- What Sync leaves. -/
def KpSync (C : Nat → Prop) (j : Nat) (u : Int) (rec : List Rec) (b s : Nat) (w : World) (e : Ending) (w' : World) : Prop :=
  But (fun b => b = j) w w' ∧ ((e = .returned (.iface 59 (.int .i64 6)) ∧ KpSt C w' j u rec b s) ∨ (e = .returned .nilIface ∧ KpSt C w' j u rec b b))
theorem kp_Sync {C : Nat → Prop} (j : Nat) (u : Int) (rec : List Rec) (b s : Nat) (w : World) (h : KpSt C w j u rec b s) :
    Calls Tryz.prog 8 #[.pointer (some ⟨j, 0, none⟩)] w (KpSync C j u rec b s w) := by
  obtain ⟨h1, h2, h3, h4, part, left, st, p1, p2, p3, p4, p5, rfl, hl⟩ := h
  cases st with
  | true =>
    refine (logG_Sync_stopped j u _ _ s left w hl).mono ?_
    rintro e w' ⟨rfl, rfl⟩
    exact ⟨But.refl _ _, .inl ⟨rfl, h1, h2, h3, h4, part, left, true, p1, p2, p3, p4, p5, rfl, hl⟩⟩
  | false =>
    obtain rfl := p3 rfl
    refine (logG_Sync j u _ _ s left w hl p4 p5).mono ?_
    rintro e w' ⟨hb, ⟨h0, rfl, hl'⟩ | ⟨h0, rfl, hl'⟩⟩
    · exact ⟨hb, .inl ⟨rfl, h1, h2, h3, h4, [], -1, true, p1, p2, fun _ => rfl, by decide, by decide, rfl, hl'⟩⟩
    · rw [kp_bsz] at hl'
      exact ⟨hb, .inr ⟨rfl, h1, h2, h3, by simp, [], max (-1) (left - 1), false, p1, p2, fun _ => rfl, by omega, by omega, rfl, hl'⟩⟩
/-- What Say leaves. -/
def KpSay (C : Nat → Prop) (j : Nat) (u : Int) (rec : List Rec) (b s : Nat) (a : Venn.Atom) (h : Bool) (w : World) (e : Ending) (w' : World) : Prop :=
  But (fun b => b = j) w w' ∧ ((e = .returned (.iface 59 (.int .i64 6)) ∧ ∃ b', KpSt C w' j u rec b' s) ∨
    (e = .returned (.iface 59 (.int .i64 (sayE a h u (saidF rec)))) ∧ sayE a h u (saidF rec) ≠ 0 ∧ KpSt C w' j u rec b s) ∨
    (e = .returned .nilIface ∧ sayE a h u (saidF rec) = 0 ∧ b + 2 ≤ (recsB (rec ++ [(a, h)])).length ∧ KpSt C w' j u (rec ++ [(a, h)]) (recsB (rec ++ [(a, h)])).length s))
theorem kp_Say {C : Nat → Prop} (j : Nat) (u : Int) (rec : List Rec) (b s : Nat) (what n : Int) (sv tv : Value) (l t : List Int) (hld : Bool) (w : World) (h : KpSt C w j u rec b s) (hu : Venn.things u = true) (hs : IsInts w sv l) (ht : IsInts w tv t) (hk : KindsOk w) (htab : TabOk w) (hC : ∀ b, C b → b < w.heap.size) :
    Calls Tryz.prog 7 #[.pointer (some ⟨j, 0, none⟩), .agg #[.int .i64 what, sv, tv, .int .i64 n], .bool hld] w (KpSay C j u rec b s ⟨what, l, t, n⟩ hld w) := by
  obtain ⟨h1, h2, h3, h4, part, left, st, p1, p2, p3, p4, p5, rfl, hl⟩ := h
  have hz := kp_size h2
  cases st with
  | true =>
    refine (logG_Say_stopped j u _ _ s left what n sv tv hld w hl).mono ?_
    rintro e w' ⟨rfl, hb⟩
    exact ⟨But.of_below hb, .inl ⟨rfl, _, h1, h2, h3, h4, part, left, true, p1, p2, p3, p4, p5, rfl, hl.keep hb⟩⟩
  | false =>
    obtain rfl := p3 rfl
    simp only [List.append_nil] at hl ⊢
    generalize ha : (⟨what, l, t, n⟩ : Venn.Atom) = a
    have key : ∀ e w', SayC C a hld j u (saidF rec) ⟨(recsB rec).toArray⟩ s left w e w' → KpSay C j u rec (recsB rec).length s a hld w e w' := by
      rintro e w' ⟨E, rfl, hb, hc⟩
      refine ⟨hb, ?_⟩
      rcases hc with ⟨k1, k2, k3⟩ | ⟨k1, k2, k3, k4⟩ | ⟨k1, k2, k3, k4⟩
      · subst k1
        exact .inr (.inl ⟨by rw [errV_ne k2], k2, h1, h2, h3, h4, [], left, false, by simp, by simp, fun _ => rfl, p4, p5, by simp, by rw [List.append_nil]; exact k3⟩)
      · subst k3
        obtain ⟨a1, a2, a3⟩ := sayE_zero k1
        refine .inl ⟨by rw [errV_ne (by decide)], _, h1, h2, h3, h4, (recB (a, hld)).take ((recB (a, hld)).length / 2), -1, true, kp_half_none a1 hld, ?_, (fun h => by cases h), by decide, by decide, rfl, ?_⟩
        · rw [List.length_take, recB_len]
          have : (textA (a, hld).1).length ≤ 84 := textA_le a1
          omega
        · rw [kp_half, kp_cat] at k4
          exact k4
      · subst k3
        obtain ⟨a1, a2, a3⟩ := sayE_zero k1
        rw [kp_len] at a2
        refine .inr (.inr ⟨by rw [errV_zero rfl], k1, ?_, by simp; omega, ?_, by rw [kp_snoc]; exact a3, by rw [recsB_app, List.length_append]; omega, [], max (-1) (left - 1), false, by simp, by simp, fun _ => rfl, by omega, by omega, by simp, ?_⟩)
        · rw [recsB_app, recsB_one, List.length_append, recB_len]
          omega
        · intro r hr
          rcases List.mem_append.1 hr with hr | hr
          · exact h2 r hr
          · rw [List.mem_singleton.1 hr]; exact a1
        · unfold recBA at k4
          rw [kp_cat] at k4
          rw [List.append_nil, kp_snoc, recsB_app, recsB_one]
          exact k4
    subst ha
    have hsz : (⟨(recsB rec).toArray⟩ : ByteArray).size ≤ 1073741824 := by rw [kp_bsz]; omega
    cases hld
    · exact (logG_SayF j u _ _ s left what n sv tv l t w hl hs ht hk htab (kp_chk h2) hu hsz p4 p5 (by rw [kp_len]; omega) hC).mono key
    · exact (logG_SayT j u _ _ s left what n sv tv l t w hl hs ht hk htab (kp_chk h2) hu hsz p4 p5 (by rw [kp_len]; omega) hC).mono key
/-- So many are whole behind a crash. -/
def leftN (rec : List Rec) (b s : Nat) (keep : Int) : Nat := wholeN rec (keptM b s keep)
theorem leftN_le (rec : List Rec) (b s : Nat) (keep : Int) : leftN rec b s keep ≤ rec.length := wholeN_le _ _
theorem open_takeK {l : List Venn.Form} {u : Int} (k : Nat) (h : Venn.openV l u = true) : Venn.openV (l.take k) u = true := by
  obtain ⟨x, hx, hT⟩ := List.any_eq_true.1 h
  exact List.any_eq_true.2 ⟨x, hx, List.all_eq_true.2 fun f hf => List.all_eq_true.1 hT f (List.mem_of_mem_take hf)⟩
theorem kp_Crash {C : Nat → Prop} (j : Nat) (u : Int) (rec : List Rec) (b s : Nat) (keep : Int) (w : World) (h : KpSt C w j u rec b s) :
    Calls Tryz.prog 9 #[.pointer (some ⟨j, 0, none⟩), .int .i64 keep] w (fun e w' => e = .returned (.tuple #[]) ∧ But (fun b => b = j) w w' ∧
      KpSt C w' j u (rec.take (leftN rec b s keep)) (recsB (rec.take (leftN rec b s keep))).length (recsB (rec.take (leftN rec b s keep))).length) := by
  obtain ⟨h1, h2, h3, h4, part, left, st, p1, p2, p3, p4, p5, rfl, hl⟩ := h
  have hz := kp_size h2
  refine (logG_Crash j u rec part _ s left st keep w hl (by simp) p1 h2 (by rw [kp_bsz, List.length_append]; omega) (by rw [kp_bsz, List.length_append]; omega)).mono ?_
  rintro e w' ⟨he, hb, hg⟩
  rw [kp_bsz] at hg
  refine ⟨he, hb, by rw [List.length_take]; omega, fun r hr => h2 r (List.mem_of_mem_take hr), ?_, Nat.le_refl _, [], -1, false, by simp, by simp, fun _ => rfl, by decide, by decide, by simp, by rw [List.append_nil]; exact hg⟩
  have : saidF (rec.take (leftN rec (recsB rec ++ part).length s keep)) = (saidF rec).take (leftN rec (recsB rec ++ part).length s keep) := by unfold saidF; rw [List.map_take]
  rw [this]
  exact open_takeK _ h3
/-- The bytes behind each record. -/
def marksL (rec : List Rec) : List Int := (List.range (rec.length + 1)).map fun i => ((recsB (rec.take i)).length : Int)
theorem marks_len (rec : List Rec) : (marksL rec).length = rec.length + 1 := by simp [marksL]
theorem marks_at {rec : List Rec} {i : Nat} (hi : i ≤ rec.length) : (marksL rec)[i]? = some ((recsB (rec.take i)).length : Int) := by
  unfold marksL
  rw [List.getElem?_map, List.getElem?_range (by omega)]
  rfl
theorem marks_snoc (rec : List Rec) (r : Rec) : marksL (rec ++ [r]) = marksL rec ++ [((recsB (rec ++ [r])).length : Int)] := by
  unfold marksL
  rw [List.length_append, List.length_singleton, List.range_succ, List.map_append]
  congr 1
  · apply List.map_congr_left
    intro i hi
    have := List.mem_range.1 hi
    rw [List.take_append_of_le_length (by omega)]
  · rw [List.map_singleton, List.take_of_length_le (by simp)]
theorem marks_take {rec : List Rec} {k : Nat} (hk : k ≤ rec.length) : (marksL rec).take (k + 1) = marksL (rec.take k) := by
  apply List.ext_getElem?
  intro i
  rw [List.getElem?_take]
  by_cases hi : i < k + 1
  · rw [if_pos hi, marks_at (by omega), marks_at (by rw [List.length_take]; omega), List.take_take, Nat.min_eq_left (by omega)]
  · rw [if_neg hi, List.getElem?_eq_none (by rw [marks_len, List.length_take]; omega)]
theorem marks_nil : marksL [] = [0] := rfl
theorem marks_le {rec : List Rec} {i b s : Nat} {keep : Int} (hi : i ≤ rec.length) : ((recsB (rec.take i)).length : Int) ≤ (keptM b s keep : Int) ↔ i ≤ leftN rec b s keep := by
  have := whole_spec rec (keptM b s keep) i hi
  unfold leftN
  omega
end Go.Proofs.YtjnjgcibhjdmdaaGreatDoor

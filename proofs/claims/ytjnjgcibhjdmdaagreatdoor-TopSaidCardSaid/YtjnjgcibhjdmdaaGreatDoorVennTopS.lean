/-
  THE PLAIN LAW of venntop.TopSaid: what was said follows, and together it has a model.
-/
import Derived.Test.YtjnjgcibhjdmdaaGreatDoorVennFollow
import Derived.Test.YtjnjgcibhjdmdaaGreatDoorVennLowG
import Derived.Test.YtjnjgcibhjdmdaaGreatDoorLogGSay
import Derived.Test.YtjnjgcibhjdmdaaGreatDoorLogGAll
namespace Venn
theorem open_take {l : List Form} {u : Int} (k : Nat) (h : openV l u = true) : openV (l.take k) u = true := by
  obtain ⟨x, hx, hT⟩ := List.any_eq_true.1 h
  exact List.any_eq_true.2 ⟨x, hx, List.all_eq_true.2 fun f hf => List.all_eq_true.1 hT f (List.mem_of_mem_take hf)⟩
theorem open_ask {l : List Form} {u : Int} (h : openV l u = true) (hk : coreChk l u = 0) {f : Form} (hf : f ∈ l) : askErr l f u = 0 ∧ askV l f u = 1 := by
  have hc : formChk f = 0 := formsChk_mem (coreChk_parts hk).2.2.1 f hf
  have hk' : askChk l f u = 0 := by rw [askChk, if_pos hk]; exact hc
  obtain ⟨x, hx, hT⟩ := List.any_eq_true.1 h
  have h1 : 0 < yesOf l f (allC u) := filter_pos.2 ⟨x, hx, by rw [hT, List.all_eq_true.1 hT f hf]; rfl⟩
  have he : askErr l f u = 0 := by rw [askErr, if_pos hk', if_neg (by omega)]
  exact follow_head he hf
/-- A form as one atom makes it. -/
def Small (f : Form) : Prop := f.atoms.length = 1 ∧ f.code.length ≤ 2 ∧ formChk f = 0
def andL : List Form → Form
  | [] => ⟨[], []⟩
  | f :: r => r.foldl bothF f
theorem andL_snoc {l : List Form} (h : l ≠ []) (g : Form) : andL (l ++ [g]) = bothF (andL l) g := by
  cases l with
  | nil => exact absurd rfl h
  | cons f r => simp [andL]
theorem fold_ok : ∀ (r : List Form) (a : Form) (m : Nat), a.atoms.length = m → a.code.length + 1 ≤ 3 * m → formChk a = 0 → (∀ f ∈ r, Small f) → m + r.length ≤ 6 →
    (r.foldl bothF a).atoms.length = m + r.length ∧ (r.foldl bothF a).code.length + 1 ≤ 3 * (m + r.length) ∧ formChk (r.foldl bothF a) = 0 ∧ ∀ w, formTrue (r.foldl bothF a) w = (formTrue a w && formsTrue r w)
  | [], a, m, h1, h2, h3, _, _ => ⟨h1, h2, h3, fun w => by simp [formsTrue]⟩
  | g :: r, a, m, h1, h2, h3, hs, h6 => by
    obtain ⟨g1, g2, g3⟩ := hs g (by simp)
    simp only [List.length_cons] at h6
    have b1 : (bothF a g).atoms.length = m + 1 := by simp [bothF, h1, g1]
    have b2 : (bothF a g).code.length + 1 ≤ 3 * (m + 1) := by
      simp only [bothF, List.length_append, List.length_map, List.length_cons, List.length_nil]
      omega
    have b3 : formChk (bothF a g) = 0 := bothF_chk h3 g3 (by omega) (by omega)
    obtain ⟨k1, k2, k3, k4⟩ := fold_ok r (bothF a g) (m + 1) b1 b2 b3 (fun f hf => hs f (List.mem_cons_of_mem _ hf)) (by omega)
    rw [List.foldl_cons, List.length_cons]
    refine ⟨by omega, by omega, k3, fun w => ?_⟩
    rw [k4, bothF_true h3 g3 (by omega), Bool.and_assoc]
    rfl
theorem andL_ok {l : List Form} (h0 : l ≠ []) (hs : ∀ f ∈ l, Small f) (h6 : l.length ≤ 6) :
    (andL l).atoms.length = l.length ∧ (andL l).code.length + 1 ≤ 3 * l.length ∧ formChk (andL l) = 0 ∧ ∀ w, formTrue (andL l) w = formsTrue l w := by
  cases l with
  | nil => exact absurd rfl h0
  | cons f r =>
    obtain ⟨f1, f2, f3⟩ := hs f (by simp)
    simp only [List.length_cons] at h6
    obtain ⟨k1, k2, k3, k4⟩ := fold_ok r f 1 f1 (by omega) f3 (fun g hg => hs g (List.mem_cons_of_mem _ hg)) (by omega)
    refine ⟨show (r.foldl bothF f).atoms.length = r.length + 1 by omega, show (r.foldl bothF f).code.length + 1 ≤ 3 * (r.length + 1) by omega, k3, fun w => ?_⟩
    show formTrue (r.foldl bothF f) w = _
    rw [k4]
    rfl
theorem andL_both {l : List Form} (h0 : l ≠ []) (hs : ∀ f ∈ l, Small f) {g : Form} (hg : Small g) (h6 : l.length + 1 ≤ 6) : bothChk (andL l) g = 0 := by
  obtain ⟨k1, k2, k3, _⟩ := andL_ok h0 hs (by omega)
  obtain ⟨g1, g2, g3⟩ := hg
  unfold bothChk
  rw [if_pos k3, if_pos g3, if_neg (by omega)]
theorem andL_model {l : List Form} (h0 : l ≠ []) (hs : ∀ f ∈ l, Small f) (h6 : l.length ≤ 6) {u : Int} (hu : things u = true) (ho : openV l u = true) :
    modelErr (andL l) u = 4 ∨ (modelErr (andL l) u = 0 ∧ ∀ f ∈ l, formHoldsChk f (modelV (andL l) u) = 0 ∧ formHoldsV f (modelV (andL l) u) = true) := by
  obtain ⟨_, _, k3, k4⟩ := andL_ok h0 hs h6
  rcases cubesErr_four k3 with hc | hc
  · have hth := hu
    simp only [things, Bool.and_eq_true, decide_eq_true_eq] at hth
    have h5 := modelErr_lt (f := andL l) (k := u.toNat) (by omega) hc
    rw [show ((u.toNat : Nat) : Int) = u by omega] at h5
    rcases h5 with h5 | h5
    · refine .inr ⟨h5, fun f hf => ?_⟩
      obtain ⟨_, m2, _, m4⟩ := model_zero h5
      rw [k4] at m4
      have hT := List.all_eq_true.1 m4 f hf
      have hch : formHoldsChk f (modelV (andL l) u) = 0 := by rw [formHoldsChk, if_pos (hs f hf).2.2]; exact m2
      exact ⟨hch, by rw [formHoldsV, if_pos hch]; exact hT⟩
    · obtain ⟨x, hx, hT⟩ := List.any_eq_true.1 ho
      obtain ⟨m1, m2⟩ := made_allC hu hx
      have := model_five h5 k3 m1 m2
      rw [k4] at this
      rw [show formsTrue l (made x) = true from hT] at this
      cases this
  · exact .inl ((modelErr_bad (by rw [hc]; decide)).trans hc)
end Venn
namespace Go.Proofs.YtjnjgcibhjdmdaaGreatDoor
open Go.RowKit
theorem alone_small {a : Venn.Atom} (h : Venn.atomChk a = 0) (b : Bool) : Venn.Small (Venn.aloneF a b) := ⟨rfl, by cases b <;> simp [Venn.aloneF], alone_okG h b⟩
theorem said_small {l : List Rec} (h : ∀ r ∈ l, Venn.atomChk r.1 = 0) : ∀ f ∈ saidF l, Venn.Small f := fun f hf => by
  obtain ⟨r, hr, rfl⟩ := List.mem_map.1 hf
  exact alone_small (h r hr) r.2
theorem said_core {l : List Rec} (h : ∀ r ∈ l, Venn.atomChk r.1 = 0) (h0 : l ≠ []) (h6 : l.length ≤ 6) {u : Int} (hu : Venn.things u = true) : Venn.coreChk (saidF l) u = 0 := by
  have hl : (saidF l).length = l.length := by simp [saidF]
  have hc : ∀ m : List Venn.Form, (∀ f ∈ m, Venn.formChk f = 0) → Venn.formsChk m = 0 := by
    intro m
    induction m with
    | nil => intro _; rfl
    | cons f r ih =>
      intro hm
      rw [Venn.formsChk, if_pos (hm f (by simp))]
      exact ih fun g hg => hm g (List.mem_cons_of_mem _ hg)
  have : 0 < l.length := List.length_pos_iff.2 h0
  unfold Venn.coreChk
  rw [if_neg (by omega), if_neg (by omega), if_pos (hc _ fun f hf => (said_small h f hf).2.2), if_pos hu]
theorem recs_size {l : List Rec} (h : ∀ r ∈ l, Venn.atomChk r.1 = 0) : (recsB l).length ≤ 86 * l.length := by
  induction l with
  | nil => simp [recsB]
  | cons r l ih =>
    rw [recsB_cons, List.length_append, recB_len, List.length_cons]
    have := textA_le (h r (by simp))
    have := ih fun x hx => h x (List.mem_cons_of_mem _ hx)
    omega
/-- How the log stands in the first loop: so many were said. -/
def TopSt (w : World) (j : Nat) (u : Int) (many : Nat) : Prop :=
  ∃ (l : List Rec) (safe : Nat), l.length = many ∧ many ≤ 6 ∧ (∀ r ∈ l, Venn.atomChk r.1 = 0) ∧ Venn.openV (saidF l) u = true ∧ safe ≤ (recsB l).length ∧ LogG w j u (saidF l) ⟨(recsB l).toArray⟩ safe (-1) false
theorem TopSt.keep {w w' : World} {j : Nat} {u : Int} {many : Nat} (h : TopSt w j u many) (hb : Below w.heap.size w w') : TopSt w' j u many := by
  obtain ⟨l, safe, h1, h2, h3, h4, h5, h6⟩ := h
  exact ⟨l, safe, h1, h2, h3, h4, h5, h6.keep hb⟩
theorem cat_ba (a b : List UInt8) : (⟨a.toArray⟩ : ByteArray) ++ ⟨b.toArray⟩ = ⟨(a ++ b).toArray⟩ := by
  apply ByteArray.ext
  simp
theorem said_snoc (l : List Rec) (a : Venn.Atom) (b : Bool) : saidF (l ++ [(a, b)]) = saidF l ++ [Venn.aloneF a b] := by simp [saidF]
/-- One more is said, or not. -/
def TopSay (j : Nat) (u : Int) (many : Nat) (w : World) (e : Ending) (w' : World) : Prop :=
  But (fun b => b = j) w w' ∧ ((∃ E : Int, e = .returned (.iface 59 (.int .i64 E)) ∧ TopSt w' j u many) ∨ (e = .returned .nilIface ∧ TopSt w' j u (many + 1)))
theorem top_post {j : Nat} {u : Int} {l : List Rec} {safe : Nat} {a : Venn.Atom} {b : Bool} {w : World} (h2 : l.length ≤ 6) (h3 : ∀ r ∈ l, Venn.atomChk r.1 = 0) (h4 : Venn.openV (saidF l) u = true) (h5 : safe ≤ (recsB l).length)
    {e : Ending} {w' : World} (h : SayG a b j u (saidF l) ⟨(recsB l).toArray⟩ safe (-1) w e w') : TopSay j u l.length w e w' := by
  obtain ⟨E, rfl, hb, hc⟩ := h
  refine ⟨hb, ?_⟩
  rcases hc with ⟨k1, k2, k3⟩ | ⟨k1, k2, _⟩ | ⟨k1, k2, k3, k4⟩
  · exact .inl ⟨E, by rw [errV_ne k2], l, safe, rfl, h2, h3, h4, h5, k3⟩
  · exact absurd k2 (by decide)
  · subst k3
    unfold sayE at k1
    have hl : (saidF l).length = l.length := by simp [saidF]
    have ka : Venn.atomChk a = 0 := by
      by_cases ha : Venn.atomChk a ≠ 0
      · rw [if_pos ha] at k1; exact absurd k1 ha
      · exact Decidable.not_not.1 ha
    rw [if_neg (by simpa using ka)] at k1
    have k6 : ¬ 6 ≤ (saidF l).length := fun h => by rw [if_pos h] at k1; cases k1
    rw [if_neg k6] at k1
    have ko : Venn.openV (saidF l ++ [Venn.aloneF a b]) u = true := by
      by_cases ho : Venn.openV (saidF l ++ [Venn.aloneF a b]) u = true
      · exact ho
      · rw [if_neg ho] at k1; cases k1
    refine .inr ⟨by rw [errV_zero rfl], l ++ [(a, b)], safe, by simp, by omega, fun r hr => ?_, by rw [said_snoc]; exact ko, by rw [recsB_app, List.length_append]; omega, ?_⟩
    · rcases List.mem_append.1 hr with hr | hr
      · exact h3 r hr
      · rw [List.mem_singleton.1 hr]; exact ka
    · have k4 : LogG w' j u (saidF l ++ [Venn.aloneF a b]) (⟨(recsB l).toArray⟩ ++ recBA a b) safe (max (-1) (-1 - 1)) false := k4
      unfold recBA at k4
      rw [cat_ba, show max (-1) ((-1 : Int) - 1) = -1 by decide] at k4
      rw [said_snoc, recsB_app, recsB_one]
      exact k4
theorem top_Say (j : Nat) (u : Int) (many : Nat) (what n : Int) (sv tv : Value) (s t : List Int) (b : Bool) (w : World) (h : TopSt w j u many) (hu : Venn.things u = true) (hs : IsInts w sv s) (ht : IsInts w tv t) (hk : KindsOk w) (htab : TabOk w) :
    Calls Tryz.prog 7 #[.pointer (some ⟨j, 0, none⟩), .agg #[.int .i64 what, sv, tv, .int .i64 n], .bool b] w (TopSay j u many w) := by
  obtain ⟨l, safe, rfl, h2, h3, h4, h5, h6⟩ := h
  have hz := recs_size h3
  have hsz : (⟨(recsB l).toArray⟩ : ByteArray).size ≤ 1073741824 := by
    show (recsB l).toArray.size ≤ _
    rw [List.size_toArray]
    omega
  have hl : (saidF l).length ≤ 90 := by simp [saidF]; omega
  have hok : ∀ f ∈ saidF l, Venn.formChk f = 0 := fun f hf => (said_small h3 f hf).2.2
  cases b
  · exact (logG_SayF j u _ _ safe (-1) what n sv tv s t w h6 hs ht hk htab hok hu hsz (by decide) (by decide) hl).mono fun _ _ hp => top_post h2 h3 h4 h5 hp
  · exact (logG_SayT j u _ _ safe (-1) what n sv tv s t w h6 hs ht hk htab hok hu hsz (by decide) (by decide) hl).mono fun _ _ hp => top_post h2 h3 h4 h5 hp
theorem top_Sync (j : Nat) (u : Int) (many : Nat) (w : World) (h : TopSt w j u many) :
    Calls Tryz.prog 8 #[.pointer (some ⟨j, 0, none⟩)] w (fun e w' => e = .returned .nilIface ∧ But (fun b => b = j) w w' ∧ TopSt w' j u many) := by
  obtain ⟨l, safe, rfl, h2, h3, h4, h5, h6⟩ := h
  refine (logG_Sync j u _ _ safe (-1) w h6 (by decide) (by decide)).mono ?_
  rintro e w' ⟨hb, ⟨h0, -⟩ | ⟨-, he, hL⟩⟩
  · exact absurd h0 (by decide)
  · exact ⟨he, hb, l, _, rfl, h2, h3, h4, Nat.le_of_eq (by show (recsB l).toArray.size = _; rw [List.size_toArray]), hL⟩
/-- Behind the crash: a part of what was said. -/
def TopKept (w : World) (j : Nat) (u : Int) (many : Nat) (l : List Rec) : Prop :=
  l.length ≤ many ∧ many ≤ 6 ∧ (∀ r ∈ l, Venn.atomChk r.1 = 0) ∧ Venn.openV (saidF l) u = true ∧ ∃ bs safe, LogG w j u (saidF l) bs safe (-1) false
theorem top_Crash (j : Nat) (u : Int) (many : Nat) (keep : Int) (w : World) (h : TopSt w j u many) :
    Calls Tryz.prog 9 #[.pointer (some ⟨j, 0, none⟩), .int .i64 keep] w (fun e w' => e = .returned (.tuple #[]) ∧ But (fun b => b = j) w w' ∧ ∃ l, TopKept w' j u many l) := by
  obtain ⟨l, safe, rfl, h2, h3, h4, h5, h6⟩ := h
  have hz := recs_size h3
  have hsz : (⟨(recsB l).toArray⟩ : ByteArray).size = (recsB l).length := by show (recsB l).toArray.size = _; rw [List.size_toArray]
  refine (logG_Crash j u l [] _ safe (-1) false keep w h6 (by simp) (by intro h; cases h) h3 (by rw [hsz]; exact h5) (by rw [hsz]; omega)).mono ?_
  rintro e w' ⟨he, hb, hg⟩
  generalize wholeN l (keptM (⟨(recsB l).toArray⟩ : ByteArray).size safe keep) = k at hg
  refine ⟨he, hb, l.take k, List.length_take_le' k l, h2, fun r hr => h3 r (List.mem_of_mem_take hr), ?_, _, _, hg⟩
  have : saidF (l.take k) = (saidF l).take k := by unfold saidF; rw [List.map_take]
  rw [this]
  exact Venn.open_take k h4
end Go.Proofs.YtjnjgcibhjdmdaaGreatDoor

/-
  THE WALK of slices.Delete at formulas: one formula is struck.
-/
import Derived.Test.YtcbjmfljdmomhaaDoorFormsA
import Derived.Deep.RegionLaw
import Derived.Laws.IdiomCopy
namespace Go.Proofs.YtcbjmfljdmomhaaDoor
open Go.RowKit

theorem but_setCells (g : Nat) : ∀ (vs : List Value) (o : Nat) (w : World), But (fun b => b = g) w (w.setCells g o vs) := by
  intro vs
  induction vs with
  | nil => intro o w; exact But.refl _ _
  | cons v vs ih =>
    intro o w
    exact ((But.refl (fun b => b = g) w).set_ (p := ⟨g, o, none⟩) rfl v).trans (ih (o + 1) _)
theorem blk_setCells {g : Nat} {t : TypeId} : ∀ (vs : List Value) (o : Nat) (w : World) (cur : Array Value), Blk w g t cur → o + vs.length ≤ cur.size →
    ∃ cur' : Array Value, Blk (w.setCells g o vs) g t cur' ∧ cur'.toList = cur.toList.take o ++ vs ++ cur.toList.drop (o + vs.length) := by
  intro vs
  induction vs with
  | nil => intro o w cur h _; exact ⟨cur, h, by simp⟩
  | cons v vs ih =>
    intro o w cur h hl
    simp only [List.length_cons] at hl
    obtain ⟨cur', h1, h2⟩ := ih (o + 1) (w.setCell ⟨g, o, none⟩ v) (cur.setIfInBounds o v) (h.set_ o v) (by simp; omega)
    refine ⟨cur', h1, ?_⟩
    rw [h2, Array.toList_setIfInBounds]
    have hlen : o < cur.toList.length := by simp; omega
    have e1 : (cur.toList.set o v).take (o + 1) = cur.toList.take o ++ [v] := by
      rw [List.take_succ_eq_append_getElem (by simpa using hlen), List.take_set, List.set_eq_of_length_le (by simp; omega)]
      simp
    have e2 : (cur.toList.set o v).drop (o + 1 + vs.length) = cur.toList.drop (o + 1 + vs.length) := by
      rw [List.drop_set, if_pos (by omega)]
    rw [e1, e2, List.length_cons, show o + (vs.length + 1) = o + 1 + vs.length by omega]
    simp
theorem erase_split {α : Type} (p : List α) (k : Nat) : p.eraseIdx k = p.take k ++ p.drop (k + 1) := List.eraseIdx_eq_take_drop_succ p k
theorem fCells_take (p : List FV) (k : Nat) : (fCells p).take (k * 2) = fCells (p.take k) := by
  induction p generalizing k with
  | nil => simp [fCells]
  | cons x p ih =>
    cases k with
    | zero => simp [fCells]
    | succ k => rw [Nat.succ_mul]; simp only [fCells, List.take_succ_cons, ih]
theorem clear_forms (w : World) (b o c : Nat) (h : ∀ j, j < 2 → (w.cell? ⟨b, o + j, none⟩).isSome = true) (hf : ∀ j, j < 2 → w.frozen? ⟨b, o + j, none⟩ = false) (ty : TypeId) :
    (Builtin.clear_ #[22] ty #[.slice (some ⟨b, o, none⟩) 1 c]).run Tryd.prog w = .ok (.tuple #[]) (w.setCells b o [.slice none 0 0, .slice none 0 0]) := by
  have hst := run_storeCells_cells (P := Tryd.prog) b o [.slice none 0 0, .slice none 0 0] 0 w (by simpa using h) (by simpa using hf) (by simp [Value.oneCell'])
  simp only [Nat.add_zero] at hst
  have hz : (Builtin.zeroCells (Value.agg #[.slice none 0 0, .slice none 0 0]).cells 1).toList = [.slice none 0 0, .slice none 0 0] := by
    simp [Builtin.zeroCells, Value.cells]
    rfl
  simp [Builtin.clear_, run_underlying Tryd.underlying22, Tryd.zeroValue31, hz, hst]
def DelPost (g cap at_ : Nat) (p : List FV) (w : World) (e : Ending) (w' : World) : Prop :=
  e = .returned (.slice (some ⟨g, 0, none⟩) (p.length - 1) cap) ∧ But (fun b => b = g) w w' ∧ ∃ cur' : Array Value, Blk w' g 31 cur' ∧ cur'.size = cap * 2 ∧ cur'.toList.take ((p.length - 1) * 2) = fCells (p.eraseIdx at_)
set_option maxHeartbeats 4000000 in
set_option maxRecDepth 100000 in
theorem delete_forms (g cap i j : Nat) (p : List FV) (cur : Array Value) (w : World) (hB : Blk w g 31 cur) (hcs : cur.size = cap * 2) (ht : cur.toList.take (p.length * 2) = fCells p) (h1 : ∀ u ∈ fCells p, u.oneCell' = true)
    (hlt : i < p.length) (hj : j = i + 1) (hcap : p.length ≤ cap) (hm : cap ≤ maxLen) :
    Calls Tryd.prog 33 #[.slice (some ⟨g, 0, none⟩) p.length cap, .int .i64 i, .int .i64 j] w (DelPost g cap i p w) := by
  have hm2 := hm
  unfold maxLen at hm2
  clear hm
  obtain ⟨i0, hi0, hz0, hz1, _⟩ := info_parts form_info
  obtain ⟨news, hnews⟩ : ∃ news, news = fCells (p.drop j) := ⟨_, rfl⟩
  have hlen : news.length = (p.length - j) * 2 := by rw [hnews, fCells_len]; simp
  have hcl : cur.toList.length = cap * 2 := by simpa using hcs
  have hcell : ∀ k, k < cap * 2 → (w.cell? ⟨g, k, none⟩).isSome = true := fun k hk => by
    rw [hB.cell k, Array.getElem?_eq_getElem (by omega)]; rfl
  have hsplit : fCells p = fCells (p.take j) ++ news := by rw [hnews, ← fCells_app, List.take_append_drop]
  have htl : (fCells (p.take j)).length = j * 2 := by rw [fCells_len]; simp; omega
  obtain ⟨A, hA, hsrc⟩ : ∃ A : Addr, (if cap = j then (some ⟨g, 0, none⟩ : Option Addr) else some ⟨g, j * 2, none⟩) = some A ∧ Hid (∀ t u, news[t]? = some u → w.drew.cell? (A.add t) = some u) := by
    by_cases h : cap = j
    · refine ⟨⟨g, 0, none⟩, by simp [h], fun t u hu => ?_⟩
      have h0 : news.length = 0 := by rw [hlen]; omega
      rw [List.length_eq_zero_iff.1 h0] at hu
      simp at hu
    · refine ⟨⟨g, j * 2, none⟩, by simp [h], fun t u hu => ?_⟩
      have htt := (List.getElem?_eq_some_iff.1 hu).1
      rw [hlen] at htt
      have hadd : (⟨g, j * 2, none⟩ : Addr).add t = ⟨g, j * 2 + t, none⟩ := by unfold Addr.add; split <;> simp_all
      rw [hadd]
      show w.cell? _ = _
      rw [hB.cell]
      have : (fCells p)[j * 2 + t]? = some u := by
        rw [hsplit, List.getElem?_append_right (by omega), htl]
        simpa using hu
      rw [← ht, List.getElem?_take] at this
      split at this
      · simpa using this
      · cases this
  have s1 : Hid (news.length = (p.length - j) * 2) := hlen
  have s2 : Hid (∀ u ∈ news, u.oneCell' = true) := fun u hu => h1 u (by rw [hsplit]; exact List.mem_append_right _ hu)
  have s3 : Hid (∀ t, t < news.length → (w.drew.cell? ⟨g, 0 + i * 2 + t, none⟩).isSome = true ∧ w.drew.frozen? ⟨g, 0 + i * 2 + t, none⟩ = false) := by
    intro t ht
    rw [hlen] at ht
    exact ⟨hcell _ (by omega), hB.frozen _⟩
  obtain ⟨W1, hW1⟩ : ∃ W1, W1 = w.drew.setCells g (0 + i * 2) news := ⟨_, rfl⟩
  obtain ⟨c1, hc1, hc1l⟩ := blk_setCells news (0 + i * 2) w.drew cur hB.drew (by rw [hlen, hcs]; omega)
  rw [← hW1] at hc1
  have hc1s : c1.size = cap * 2 := by
    have := congrArg List.length hc1l
    simp only [List.length_append, List.length_take, List.length_drop, Array.length_toList, hlen, hcs] at this
    omega
  have hb1 : But (fun b => b = g) w W1 := by rw [hW1]; exact (But.refl _ w).drew.trans (but_setCells g _ _ _)
  have hclr : ∀ ty, (Builtin.clear_ #[22] ty #[.slice (some ⟨g, (i + (p.length - j)) * 2, none⟩) (p.length - (i + (p.length - j))) (cap - (i + (p.length - j)))]).run Tryd.prog W1 = .ok (.tuple #[]) (W1.setCells g ((i + (p.length - j)) * 2) [.slice none 0 0, .slice none 0 0]) := fun ty => by
    rw [show p.length - (i + (p.length - j)) = 1 by omega]
    exact clear_forms W1 g _ _ (fun t ht => by rw [hc1.cell, Array.getElem?_eq_getElem (by omega)]; rfl) (fun t _ => hc1.frozen _) ty
  obtain ⟨c2, hc2, hc2l⟩ := blk_setCells [.slice none 0 0, .slice none 0 0] ((i + (p.length - j)) * 2) W1 c1 hc1 (by simp; omega)
  have hfin : c2.size = cap * 2 ∧ c2.toList.take ((p.length - 1) * 2) = fCells (p.eraseIdx i) := by
    refine ⟨?_, ?_⟩
    · have := congrArg List.length hc2l
      simp only [List.length_append, List.length_take, List.length_drop, Array.length_toList, List.length_cons, List.length_nil, hc1s] at this
      omega
    · rw [hc2l, List.append_assoc, List.take_append_of_le_length (by simp; omega), List.take_take, Nat.min_eq_left (by omega), hc1l, Nat.zero_add, erase_split, fCells_app, ← hj, ← hnews]
      have e1 : cur.toList.take (i * 2) = fCells (p.take i) := by
        rw [← fCells_take, ← ht, List.take_take, Nat.min_eq_left (by omega)]
      rw [e1, List.take_append_of_le_length (by rw [List.length_append, fCells_len, hlen]; simp; omega), List.take_of_length_le (by rw [List.length_append, fCells_len, hlen]; simp; omega)]
  have HW : Hid (W1 = w.drew.setCells g (0 + i * 2) news) := hW1
  have HX := Lib.hid (And.intro hc2 (And.intro hfin hb1))
  have e1 : ((i : Int) == (j : Int)) = false := by rw [hj]; exact beq_eq_false_iff_ne.2 (by omega)
  have hic : i ≤ cap := by omega
  have hjc : j ≤ cap := by omega
  have hij : i ≤ j := by omega
  have hjl : j ≤ p.length := by omega
  have HJ := Lib.hid hj
  clear hB ht h1 hnews hlen hcl hcell hsplit htl hW1 hc1 hc1l hc1s hb1 hc2 hc2l hfin hcs hj
  go_enter Tryd.func33, Tryd.ntmps33
  go_wp2_with fail
  go_region_law (refine step_append_room (by rfl) (.tmp 22) (.tmp 25) 22 (by rfl) 31 i0 2 Tryd.underlying22 hi0 hz1 g 0 i cap (by simp [Act.eval, Act.put]) A (p.length - j) (cap - j) news (by simp [Act.eval, Act.put]) s1.out hsrc.out s2.out (by omega) s3.out ?_; rw [← HW.out])
  have hne : ¬ cap = i + (p.length - j) := by have := HJ.out; omega
  go_wp2
  go_ret
  refine ⟨?_, HX.out.2.2.trans (but_setCells g _ _ _), c2, HX.out.1, HX.out.2.1.1, HX.out.2.1.2⟩
  have e : i + (p.length - j) = p.length - 1 := by have := HJ.out; omega
  simp [e]
end Go.Proofs.YtcbjmfljdmomhaaDoor

/-
  THE PLAIN SIDE of AlikeWorlds: what is so is so in each world.
-/
import Derived.Test.YtpkleioabinkkaaGreatDoorVennLow
import Derived.Test.YtpkleioabinkkaaGreatDoorOwnG
namespace Venn
theorem andNot_bit (a b i : Nat) : (andNot a b).testBit i = (a.testBit i && !b.testBit i) := by
  unfold andNot
  rw [Nat.testBit_xor, Nat.testBit_and]
  cases a.testBit i <;> cases b.testBit i <;> rfl
theorem nat_zero_bits {n : Nat} (h : ∀ i, n.testBit i = false) : n = 0 := Nat.eq_of_testBit_eq fun i => by rw [h i]; simp
theorem andNot_zero {a b : Nat} : andNot a b = 0 ↔ ∀ i, a.testBit i = true → b.testBit i = true := by
  constructor
  · intro h i hi
    have := andNot_bit a b i
    rw [h, hi] at this
    simpa using this
  · intro h
    refine nat_zero_bits fun i => ?_
    rw [andNot_bit]
    cases ha : a.testBit i
    · rfl
    · rw [h i ha]; rfl
theorem and_zero {a b : Nat} : a &&& b = 0 ↔ ∀ i, a.testBit i = true → b.testBit i = false := by
  constructor
  · intro h i hi
    have := Nat.testBit_and a b i
    rw [h, hi] at this
    simpa using this.symm
  · intro h
    refine nat_zero_bits fun i => ?_
    rw [Nat.testBit_and]
    cases ha : a.testBit i
    · rfl
    · rw [h i ha]; rfl
theorem chk2_zero {s t : List Int} (h : chk2 s t = 0) : termChk s = 0 ∧ termChk t = 0 := by
  unfold chk2 at h
  by_cases hs : termChk s = 0
  · rw [if_pos hs] at h; exact ⟨hs, h⟩
  · rw [if_neg hs] at h; exact absurd h hs
theorem chk2_mk {s t : List Int} (hs : termChk s = 0) (ht : termChk t = 0) : chk2 s t = 0 := by unfold chk2; rw [if_pos hs]; exact ht
/-- Bit f of a mask: the term lies in that field. -/
theorem mask_bit (t : List Int) {f : Nat} (hf : f < 8) : (mask t).toNat.testBit f = decide (lies t f = 1) := by
  have h := bitI_mask t f hf
  have hr := mask_range t
  unfold bitI at h
  rw [Nat.testBit_eq_decide_div_mod_eq, ← h]
  obtain ⟨n, hn⟩ := Int.eq_ofNat_of_zero_le hr.1
  rw [hn]
  simp only [Int.toNat_natCast]
  have : ((n : Int) / 2 ^ f % 2) = ((n / 2 ^ f % 2 : Nat) : Int) := by simp
  rw [this]
  congr 1
  apply propext
  omega
theorem mask_high (t : List Int) {f : Nat} (hf : 8 ≤ f) : (mask t).toNat.testBit f = false := by
  have hr := mask_range t
  apply Nat.testBit_lt_two_pow
  have h : 2 ^ 8 ≤ 2 ^ f := Nat.pow_le_pow_right (by decide) hf
  omega
theorem mask_eq {s t : List Int} : mask s = mask t ↔ ∀ f, f < 8 → lies s f = lies t f := by
  constructor
  · intro h f hf
    rw [← bitI_mask s f hf, ← bitI_mask t f hf, h]
  · intro h
    simp only [mask, maskTo]
    rw [h 0 (by omega), h 1 (by omega), h 2 (by omega), h 3 (by omega), h 4 (by omega), h 5 (by omega), h 6 (by omega), h 7 (by omega)]
/-- THE SAME IS PART BOTH WAYS. -/
theorem same_part {s t : List Int} (h : chk2 s t = 0) : sameV s t = (partV s t && partV t s) := by
  obtain ⟨hs, ht⟩ := chk2_zero h
  have h2 := chk2_mk ht hs
  have hrs := mask_range s
  have hrt := mask_range t
  unfold sameV partV
  rw [h, h2]
  simp only [decide_true, Bool.true_and]
  rw [Bool.eq_iff_iff, Bool.and_eq_true, beq_iff_eq, beq_iff_eq, beq_iff_eq]
  constructor
  · intro e
    rw [e]
    have : andNot (mask t).toNat (mask t).toNat = 0 := andNot_zero.2 fun _ h => h
    rw [this]
    exact ⟨rfl, rfl⟩
  · rintro ⟨h1, h2⟩
    have g1 := andNot_zero.1 (Int.ofNat_eq_zero.1 h1)
    have g2 := andNot_zero.1 (Int.ofNat_eq_zero.1 h2)
    have : (mask s).toNat = (mask t).toNat := Nat.eq_of_testBit_eq fun i => by
      cases hs : (mask s).toNat.testBit i
      · cases ht : (mask t).toNat.testBit i
        · rfl
        · rw [g2 i ht] at hs; cases hs
      · rw [g1 i hs]
    omega
theorem toI_inj {a b : Bool} (h : toI a = toI b) : a = b := by cases a <;> cases b <;> first | rfl | (simp [toI] at h)
theorem toI_one {a : Bool} : toI a = 1 ↔ a = true := by cases a <;> simp [toI]
/-- Terms that are the same are so in any world. -/
theorem same_world {s t : List Int} (h : sameV s t = true) {w : World} (hw : worldChk w = 0) : termSet s w = termSet t w := by
  unfold sameV at h
  rw [Bool.and_eq_true, decide_eq_true_eq, beq_iff_eq] at h
  obtain ⟨hc, hm⟩ := h
  obtain ⟨hs, ht⟩ := chk2_zero hc
  refine bit_ext (termSet_right hw s) (termSet_right hw t) fun i hi => toI_inj ?_
  rw [← lies_field hs w hi, ← lies_field ht w hi]
  exact mask_eq.1 hm _ (fieldIn_lt w i)
theorem part_world {s t : List Int} (h : partV s t = true) {w : World} (hw : worldChk w = 0) : setOf 7 w.things (termSet s w) (termSet t w) = 0 := by
  unfold partV at h
  rw [Bool.and_eq_true, decide_eq_true_eq, beq_iff_eq] at h
  obtain ⟨hc, hm⟩ := h
  obtain ⟨hs, ht⟩ := chk2_zero hc
  have g := andNot_zero.1 (Int.ofNat_eq_zero.1 hm)
  refine bit_ext (setOf_right (termSet_right hw s) (termSet_right hw t)) (setChk_zero (worldChk_iff.1 hw).1) fun i hi => ?_
  rw [bit_setOf 7 _ _ _ i (by omega) (by omega)]
  have hz : bit 0 i = false := by unfold bit; simp
  rw [hz]
  show (bit (termSet s w) i && !bit (termSet t w) i) = false
  cases hb : bit (termSet s w) i
  · rfl
  · have h1 : lies s (fieldIn w i) = 1 := by rw [lies_field hs w hi, hb]; rfl
    have h2 := g (fieldIn w i) (by rw [mask_bit s (fieldIn_lt w i), h1]; rfl)
    rw [mask_bit t (fieldIn_lt w i), decide_eq_true_eq, lies_field ht w hi, toI_one] at h2
    rw [h2]
    rfl
theorem apart_world {s t : List Int} (h : apartV s t = true) {w : World} (hw : worldChk w = 0) : setOf 6 w.things (termSet s w) (termSet t w) = 0 := by
  unfold apartV at h
  rw [Bool.and_eq_true, decide_eq_true_eq, beq_iff_eq] at h
  obtain ⟨hc, hm⟩ := h
  obtain ⟨hs, ht⟩ := chk2_zero hc
  have g := and_zero.1 (Int.ofNat_eq_zero.1 hm)
  refine bit_ext (setOf_right (termSet_right hw s) (termSet_right hw t)) (setChk_zero (worldChk_iff.1 hw).1) fun i hi => ?_
  rw [bit_setOf 6 _ _ _ i (by omega) (by omega)]
  have hz : bit 0 i = false := by unfold bit; simp
  rw [hz]
  show (bit (termSet s w) i && bit (termSet t w) i) = false
  cases hb : bit (termSet s w) i
  · rfl
  · have h1 : lies s (fieldIn w i) = 1 := by rw [lies_field hs w hi, hb]; rfl
    have h2 := g (fieldIn w i) (by rw [mask_bit s (fieldIn_lt w i), h1]; rfl)
    rw [mask_bit t (fieldIn_lt w i), decide_eq_false_iff_not, lies_field ht w hi, toI_one] at h2
    simpa using h2
/-- The atom that two terms are the same. -/
def sameF (s t : List Int) : Form := ⟨[⟨2, s, t, 0⟩], [0]⟩
theorem sameF_true (s t : List Int) (w : World) : formTrue (sameF s t) w = (termSet s w == termSet t w) := rfl
theorem sameF_chk {s t : List Int} (hs : termChk s = 0) (ht : termChk t = 0) : formChk (sameF s t) = 0 := by
  have ha : atomChk ⟨2, s, t, 0⟩ = 0 := by
    unfold atomChk
    simp [hs, ht]
    exact (if_pos (by decide)).trans (by decide)
  unfold formChk sameF
  simp [atomsChk, ha]
  decide
theorem sameF_neg {s t : List Int} (hs : termChk s = 0) (ht : termChk t = 0) : negChk (sameF s t) = 0 ∧ cubesErr (negF (sameF s t)) = 0 := by
  have hf := sameF_chk hs ht
  have hn : negChk (sameF s t) = 0 := by
    unfold negChk
    rw [if_pos hf, if_neg (by simp [sameF])]
  refine ⟨hn, ?_⟩
  have hg := negF_chk hf (by simp [sameF])
  unfold cubesErr
  rw [if_pos hg]
  have e : (negF (sameF s t)).code = [0, 12] := rfl
  rw [e]
  rfl
/-- IN ONE THING THERE IS A WORLD IN WHICH THEY ARE NOT. -/
theorem same_sure {s t : List Int} (h : chk2 s t = 0) : sureErr (sameF s t) 1 = 0 ∧ sureV (sameF s t) 1 = sameV s t := by
  obtain ⟨hs, ht⟩ := chk2_zero h
  have hf := sameF_chk hs ht
  obtain ⟨hn, hc⟩ := sameF_neg hs ht
  have ha : againstErr (sameF s t) 1 = 0 ∨ againstErr (sameF s t) 1 = 5 := by
    unfold againstErr
    rw [if_pos hn]
    exact modelErr_lt (k := 1) (by omega) hc
  unfold sureErr sureV
  rw [if_pos hf, if_pos hf, if_pos ha]
  refine ⟨rfl, ?_⟩
  rcases ha with h0 | h5
  · rw [h0]
    obtain ⟨_, h2, h3, h4⟩ := again_zero h0
    cases hv : sameV s t
    · rfl
    · rw [sameF_true, same_world hv h2, beq_self_eq_true] at h4
      cases h4
  · rw [h5]
    have hm : mask s = mask t := mask_eq.2 fun f hf8 => by
      have := again_five h5 hf (one_right f) rfl
      rw [sameF_true, beq_iff_eq] at this
      exact this
    unfold sameV
    rw [h, hm, beq_self_eq_true]
    rfl
theorem swap_one {x y : Int} (hx : nameOk x = true) (hy : nameOk y = true) (s : Int) (hs : 0 ≤ s ∧ s ≤ 8) : takes (if s = x then y else if s = y then x else s) = takes s ∧ 0 ≤ (if s = x then y else if s = y then x else s) ∧ (if s = x then y else if s = y then x else s) ≤ 8 := by
  unfold nameOk at hx hy
  simp only [Bool.and_eq_true, decide_eq_true_eq] at hx hy
  unfold takes
  split
  · subst x
    rw [if_neg (by omega), if_neg (by omega), if_neg (by omega), if_neg (by omega)]
    omega
  · split
    · subst y
      rw [if_neg (by omega), if_neg (by omega), if_neg (by omega), if_neg (by omega)]
      omega
    · exact ⟨rfl, hs⟩
theorem shape_swap {x y : Int} (hx : nameOk x = true) (hy : nameOk y = true) : ∀ (t : List Int) (m : Int), (∀ s ∈ t, 0 ≤ s ∧ s ≤ 8) → shapeGo m (swapL t x y) = shapeGo m t
  | [], m, _ => rfl
  | s :: r, m, h => by
    have h1 := (swap_one hx hy s (h s (List.mem_cons_self ..))).1
    have h2 := fun m => shape_swap hx hy r m fun z hz => h z (List.mem_cons_of_mem _ hz)
    show shapeGo m ((if s = x then y else if s = y then x else s) :: swapL r x y) = shapeGo m (s :: r)
    rw [shapeGo, shapeGo, h1, h2]
/-- SWAPPED TWICE IT IS ITSELF. -/
theorem swap_twice {t : List Int} {x y : Int} (h : swapChk t x y = 0) : swapChk (swapL t x y) x y = 0 ∧ swapL (swapL t x y) x y = t := by
  unfold swapChk at h
  by_cases ht : termChk t = 0
  · rw [if_pos ht] at h
    by_cases hn : nameOk x = true ∧ nameOk y = true
    · obtain ⟨h1, h2, h3, h4⟩ := termChk_split ht
      have hc : termChk (swapL t x y) = 0 := by
        refine termChk_mk (by simp [swapL]; intro e; rw [e] at h1; simp at h1) (by simpa [swapL] using h2) ?_ (by rw [shape_swap hn.1 hn.2 t 0 h3]; exact h4)
        intro z hz
        obtain ⟨s, hs, rfl⟩ := List.mem_map.1 hz
        exact (swap_one hn.1 hn.2 s (h3 s hs)).2
      refine ⟨by unfold swapChk; rw [if_pos hc, if_pos hn], ?_⟩
      unfold swapL
      rw [List.map_map]
      conv => rhs; rw [← List.map_id t]
      refine List.map_congr_left fun s _ => ?_
      simp only [Function.comp, id]
      by_cases hx : s = x
      · rw [if_pos hx]
        by_cases hy : y = x
        · rw [if_pos hy]; omega
        · rw [if_neg hy, if_pos rfl]; exact hx.symm
      · rw [if_neg hx]
        by_cases hy : s = y
        · rw [if_pos hy, if_pos rfl]; exact hy.symm
        · rw [if_neg hy, if_neg hx, if_neg hy]
    · rw [if_neg hn] at h; cases h
  · rw [if_neg ht] at h
    exact absurd h ht
theorem meet_same : sameV [0, 1, 6] [1, 0, 6] = true ∧ chk2 [0, 1, 6] [1, 0, 6] = 0 := by decide +kernel
end Venn

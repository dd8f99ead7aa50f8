/-
  THE WALK of atom.Text.
-/
import Derived.Test.YtjnjgcibhjdmdaaGreatDoorStrs
import Derived.Test.YtjnjgcibhjdmdaaGreatDoorText
import Derived.Test.YtjnjgcibhjdmdaaGreatDoorAtomG
import Derived.Deep.DeepCutAuto
namespace Venn
/-- An atom's word. -/
def wordB (w : Int) : List UInt8 := if w = 1 then [115, 117, 98] else if w = 2 then [115, 97, 109, 101] else if w = 3 then [108, 101, 97, 115, 116] else if w = 4 then [109, 111, 115, 116] else [110, 111, 109, 111, 114, 101]
end Venn
namespace Go.Proofs.YtjnjgcibhjdmdaaGreatDoor
open Go.RowKit

/-- An atom's words. -/
def wordsL (a : Venn.Atom) : List (List UInt8) := [Venn.wordB a.what, textB a.s] ++ (if Venn.hasT a.what = true then [textB a.t] else []) ++ (if 3 ≤ a.what then [Lib.itoa a.n] else [])
def textA (a : Venn.Atom) : List UInt8 := Lib.join (wordsL a) [32]
theorem own_lit2 {w : World} {g base : Nat} {t : TypeId} {x y : Value} (h : Blk w g t #[x, y]) (hg : base ≤ g) : w.ownsRow base t 1 (.slice (some ⟨g, 0, none⟩) 2 2) 2 [x, y] :=
  ⟨rfl, .inr ⟨g, 2, #[x, y], rfl, hg, h, Nat.le_refl _, by decide, rfl, rfl⟩⟩
theorem ba_str (l : List UInt8) : (⟨l.toArray⟩ : ByteArray).data.toList = l := by simp
theorem textB_len (t : List Int) : (textB t).length = t.length := by simp [textB]
theorem decDigits_small : ∀ n : Fin 100, (Lib.decDigits n.val).length ≤ 2 := by decide +kernel
theorem itoa_len {n : Int} (h : -20 ≤ n ∧ n ≤ 20) : (Lib.itoa n).length ≤ 3 := by
  unfold Lib.itoa
  split
  · have := decDigits_small ⟨n.natAbs, by omega⟩
    simp only [List.length_cons]
    simp only at this
    omega
  · have := decDigits_small ⟨n.toNat, by omega⟩
    simp only at this
    omega
theorem wordB_len (w : Int) : (Venn.wordB w).length ≤ 6 := by
  unfold Venn.wordB
  split
  · decide
  split
  · decide
  split
  · decide
  split
  · decide
  · decide
theorem join_le (sep : List UInt8) (h1 : sep.length ≤ 1) : ∀ (xs : List (List UInt8)), (∀ x ∈ xs, x.length ≤ 20) → (Lib.join xs sep).length ≤ 21 * xs.length
  | [], _ => by simp [Lib.join_nil]
  | [x], h => by rw [Lib.join_one]; have := h x (by simp); simp; omega
  | x :: y :: r, h => by
    have hx := h x (by simp)
    have ih := join_le sep h1 (y :: r) fun z hz => h z (List.mem_cons_of_mem _ hz)
    have e : Lib.join (x :: y :: r) sep = x ++ sep ++ Lib.join (y :: r) sep := by
      unfold Lib.join
      rw [List.intercalate_cons_cons]
    rw [e, List.length_append, List.length_append]
    simp only [List.length_cons] at ih ⊢
    omega
/-- strings.Join over a row of the call's own. -/
theorem join_own {w : World} {base : Nat} {v : Value} {n : Nat} (xs : List (List UInt8)) (h : w.ownsRow base 9 1 v n (xs.map fun l => Value.string ⟨l.toArray⟩)) (h0 : n ≠ 0) (hl : n ≤ 100) (h20 : ∀ x ∈ xs, x.length ≤ 20) :
    Calls Tryz.prog 54 #[v, .string ⟨#[32]⟩] w (Keeps (.string ⟨(Lib.join xs [32]).toArray⟩) w) := by
  have hn : n = xs.length := by have := h.1; simpa using this.symm
  subst hn
  rcases h.2 with ⟨rfl, hz⟩ | ⟨g, cap, cur, rfl, _, hh, hnc, hcm, hcs, ht⟩
  · exact absurd hz h0
  · have hj := strings_Join g 0 cap (xs.map fun l => (⟨l.toArray⟩ : ByteArray)) ⟨#[32]⟩ w (fun j x hj => by
      have := h.cells (g := g) rfl j (.string x) (by
        rw [List.getElem?_map] at hj ⊢
        obtain ⟨y, hy, rfl⟩ := Option.map_eq_some_iff.1 hj
        rw [hy]; rfl)
      have hadd : (⟨g, 0, none⟩ : Addr).add j = ⟨g, j, none⟩ := by unfold Addr.add; split <;> simp_all
      rw [hadd] at this
      rw [Nat.zero_add]
      exact this) (by
        have : g < w.heap.size := by
          rcases Nat.lt_or_ge g w.heap.size with hlt | hge
          · exact hlt
          · rw [Array.getElem?_eq_none hge] at hh; cases hh
        exact this) (by simp; omega) (by simpa using hnc) (by
        have := join_le [32] (by simp) xs h20
        have e : ((xs.map fun l => (⟨l.toArray⟩ : ByteArray)).map (·.data.toList)) = xs := by simp [List.map_map, Function.comp_def]
        rw [e]
        simp only
        omega)
    have e : ((xs.map fun l => (⟨l.toArray⟩ : ByteArray)).map (·.data.toList)) = xs := by simp [List.map_map, Function.comp_def]
    rw [e] at hj
    simpa using hj
theorem atomText_parts {a : Venn.Atom} (h : Venn.atomChk a = 0) : Venn.termChk a.s = 0 ∧ (Venn.hasT a.what = true → Venn.termChk a.t = 0) ∧ (-20 ≤ a.n ∧ a.n ≤ 20) := by
  unfold Venn.atomChk at h
  split at h
  · cases h
  split at h
  · rename_i h1 h2
    exact absurd h h2
  rename_i h1 h2
  have hs : Venn.termChk a.s = 0 := Decidable.not_not.1 h2
  have hn : ∀ x, Venn.nChk a.what x = 0 → -20 ≤ x ∧ x ≤ 20 := by
    intro x hx
    unfold Venn.nChk at hx
    split at hx
    · cases hx
    · omega
  by_cases ht : Venn.hasT a.what = true
  · rw [if_pos ht] at h
    by_cases h3 : Venn.termChk a.t = 0
    · rw [if_neg (by simp [h3])] at h
      exact ⟨hs, fun _ => h3, hn _ h⟩
    · rw [if_pos h3] at h
      exact absurd h h3
  · rw [if_neg ht] at h
    refine ⟨hs, fun h' => absurd h' ht, ?_⟩
    split at h
    · exact hn _ h
    · cases h
set_option maxHeartbeats 4000000 in
set_option maxRecDepth 100000 in
theorem atom_Text1 (n : Int) (sv tv : Value) (s t : List Int) (w : World) (hs : IsInts w sv s) (ht : IsInts w tv t) (hk : KindsOk w) (_htab : TabOk w) (hc : Venn.atomChk ⟨1, s, t, n⟩ = 0) :
    Calls Tryz.prog 29 #[.agg #[.int .i64 1, sv, tv, .int .i64 n]] w (Keeps (.string ⟨(textA ⟨1, s, t, n⟩).toArray⟩) w) := by
  obtain ⟨cs, ct, cn⟩ := atomText_parts hc
  simp only at cs ct cn
  obtain ⟨_, cs12, _⟩ := Venn.termChk_parts cs
  have ctx := (Venn.termChk_parts cs).2.1
  have HL := Lib.hid (show textA ⟨1, s, t, n⟩ = Lib.join [[115, 117, 98], textB s, textB t] [32] from rfl)
  have HT20 := Lib.hid (show ∀ x ∈ ([[115, 117, 98], textB s, textB t] : List (List UInt8)), x.length ≤ 20 from by
    intro x hx
    simp only [List.mem_cons, List.not_mem_nil, or_false] at hx
    rcases hx with rfl | rfl | rfl
    · decide
    · rw [textB_len]; omega
    · rw [textB_len]; have := (Venn.termChk_parts (ct rfl)).2.1; omega
)
  rw [HL.out]
  have HTX := Lib.hid (fun W (hW : Below w.heap.size w W) => term_Text sv s W (hs.keep hW) cs)
  have HTY := Lib.hid (fun W (hW : Below w.heap.size w W) => term_Text tv t W (ht.keep hW) (ct rfl))

  have k0 : w.cell? ⟨0, 3, none⟩ = some (str [115, 117, 98]) := hk 3 _ rfl
  have k1 : w.cell? ⟨0, 4, none⟩ = some (.bool true) := hk 4 _ rfl
  have k2 : w.cell? ⟨0, 5, none⟩ = some (.bool false) := hk 5 _ rfl
  have hg : 0 < w.heap.size := cell_lt k0
  unfold str at k0
  obtain ⟨SA, kS, rfl, _⟩ := hs
  obtain ⟨TA, kT, rfl, _⟩ := ht
  clear hk hc cs ct cs12 ctx HL
  go_enter Tryz.func29, Tryz.ntmps29
  go_upto_region 2 with (fail)
  have BA := Lib.hid ((Blk.new w 32 #[.int .i64 1, .slice SA s.length kS, .slice TA t.length kT, .int .i64 n]).alloc (.cells #[.string ⟨#[115, 117, 98]⟩, .bool true, .bool false] 91))
  have BK := Lib.hid (Blk.newAt (w := w.alloc (.cells #[.int .i64 1, .slice SA s.length kS, .slice TA t.length kT, .int .i64 n] 32)) (g := w.heap.size + 1) (by simp) 91 #[.string ⟨#[115, 117, 98]⟩, .bool true, .bool false])
  have hq1 : Below w.heap.size w ((w.alloc (.cells #[.int .i64 1, .slice SA s.length kS, .slice TA t.length kT, .int .i64 n] 32)).alloc (.cells #[.string ⟨#[115, 117, 98]⟩, .bool true, .bool false] 91)) := by (repeat' (first | (with_reducible exact Below.refl _ _) | (with_reducible assumption) | (with_reducible refine Below.next ?_ (by with_reducible assumption)) | (with_reducible refine Below.drew ?_) | (with_reducible refine Below.laid ?_ _) | (with_reducible refine Below.setCell ?_ ?_ _) | (with_reducible refine size_of ?_) | (with_reducible refine Nat.le_succ_of_le ?_) | go_size))
  clear k0 k1 k2 hg cn
  revert BA BK hq1
  generalize (w.alloc (.cells #[.int .i64 1, .slice SA s.length kS, .slice TA t.length kT, .int .i64 n] 32)).alloc (.cells #[.string ⟨#[115, 117, 98]⟩, .bool true, .bool false] 91) = w1
  intro BA BK hq1
  go_cut [4] (fun z wx => ∃ g, z = .slice (some ⟨g, 0, none⟩) 2 2 ∧ Blk wx g 9 #[.string ⟨#[115, 117, 98]⟩, .string ⟨(textB s).toArray⟩] ∧ w1.heap.size ≤ g ∧ Below w1.heap.size w1 wx)
  case first =>
    obtain ⟨a0, a1, a2, a3⟩ := BA.out.cells4
    have c0 := BK.out.cell 0
    simp at c0
    have HTD := Lib.hid (HTX.out w1.drew hq1.drew)
    clear HT20 HTX
    go_region_law (go_simp; go_at_call 52; refine (HTD.out).mono ?_; rintro e w2 ⟨rfl, hb2⟩; have c0' : w2.cell? ⟨w.heap.size + 1, 0, none⟩ = some (.string ⟨#[115, 117, 98]⟩) := ((BK.out.drew).keep hb2).cell 0)
    all_goals
      have hal : Below w1.heap.size w1 w2 := Below.next (Below.refl _ w1).drew hb2
      go_wp2
      go_meet
      case rel => exact ⟨w2.heap.size, rfl, Blk.new _ _ _, hal.size, hal.alloc hal.size _⟩
  case rest =>
  obtain ⟨g, rfl, hbg, hgg, hb2⟩ := hcut
  obtain ⟨w2, rfl⟩ : ∃ w2 : World, w2 = wc := ⟨_, rfl⟩
  have HO2 := Lib.hid (own_lit2 hbg hgg)
  clear hbg hgg HTX
  obtain ⟨a0, a1, a2, a3⟩ := (BA.out.keep hb2).cells4
  have c1 := (BK.out.keep hb2).cell 1
  have c2 := (BK.out.keep hb2).cell 2
  simp at c1 c2
  go_wp2_with fail
  refine (HTY.out _ (Below.next hq1 hb2)).mono ?_
  rintro e w3 ⟨rfl, hk3⟩
  have hal : Below w3.heap.size w3 (w3.alloc (.cells #[.string ⟨(textB t).toArray⟩] 9)) := by have w := w3; (repeat' (first | (with_reducible exact Below.refl _ _) | (with_reducible assumption) | (with_reducible refine Below.next ?_ (by with_reducible assumption)) | (with_reducible refine Below.drew ?_) | (with_reducible refine Below.laid ?_ _) | (with_reducible refine Below.setCell ?_ ?_ _) | (with_reducible refine size_of ?_) | (with_reducible refine Nat.le_succ_of_le ?_) | go_size))
  have hka := Below.next hk3 hal
  have hb1a := Below.next hb2 hka
  have hown := own_kept HO2.out hka
  have hbase : w1.heap.size ≤ (w3.alloc (.cells #[.string ⟨(textB t).toArray⟩] 9)).heap.size := hb1a.size
  clear a0 a1 a2 a3 c1 c2
  go_wp2_with (at_builtin; refine wpList_app1s _ rfl _ _ rfl w1.heap.size _ 2 _ rfl hown w3.heap.size 1 ⟨(textB t).toArray⟩ (by simp [go_sem]) (by simp) (by omega) hbase ?_)
  intro v4 w4 hown4 hg4
  have hb4 := hb1a.grown hg4 hb1a.size (fun b e => (HO2.out.lt b e).1)
  have HO4 := Lib.hid hown4
  clear hown4 hg4 hb1a hka hal hown hbase hk3
  obtain ⟨a0, a1, a2, a3⟩ := (BA.out.keep hb4).cells4
  have c1 := (BK.out.keep hb4).cell 1
  have c2 := (BK.out.keep hb4).cell 2
  simp at c1 c2
  have HJ := Lib.hid (join_own [[115, 117, 98], textB s, textB t] (show w4.ownsRow w1.heap.size 9 1 _ 3 (([[115, 117, 98], textB s, textB t] : List (List UInt8)).map fun l => Value.string ⟨l.toArray⟩) from HO4.out) (by decide) (by decide) HT20.out)
  clear HT20
  go_wp2_with fail
  refine (HJ.out).mono ?_
  rintro e wz ⟨rfl, hbz⟩
  go_wp2
  go_ret
  exact ⟨rfl, Below.next (Below.next hq1 hb4) hbz⟩
set_option maxHeartbeats 4000000 in
set_option maxRecDepth 100000 in
theorem atom_Text2 (n : Int) (sv tv : Value) (s t : List Int) (w : World) (hs : IsInts w sv s) (ht : IsInts w tv t) (hk : KindsOk w) (_htab : TabOk w) (hc : Venn.atomChk ⟨2, s, t, n⟩ = 0) :
    Calls Tryz.prog 29 #[.agg #[.int .i64 2, sv, tv, .int .i64 n]] w (Keeps (.string ⟨(textA ⟨2, s, t, n⟩).toArray⟩) w) := by
  obtain ⟨cs, ct, cn⟩ := atomText_parts hc
  simp only at cs ct cn
  obtain ⟨_, cs12, _⟩ := Venn.termChk_parts cs
  have ctx := (Venn.termChk_parts cs).2.1
  have HL := Lib.hid (show textA ⟨2, s, t, n⟩ = Lib.join [[115, 97, 109, 101], textB s, textB t] [32] from rfl)
  have HT20 := Lib.hid (show ∀ x ∈ ([[115, 97, 109, 101], textB s, textB t] : List (List UInt8)), x.length ≤ 20 from by
    intro x hx
    simp only [List.mem_cons, List.not_mem_nil, or_false] at hx
    rcases hx with rfl | rfl | rfl
    · decide
    · rw [textB_len]; omega
    · rw [textB_len]; have := (Venn.termChk_parts (ct rfl)).2.1; omega
)
  rw [HL.out]
  have HTX := Lib.hid (fun W (hW : Below w.heap.size w W) => term_Text sv s W (hs.keep hW) cs)
  have HTY := Lib.hid (fun W (hW : Below w.heap.size w W) => term_Text tv t W (ht.keep hW) (ct rfl))

  have k0 : w.cell? ⟨0, 6, none⟩ = some (str [115, 97, 109, 101]) := hk 6 _ rfl
  have k1 : w.cell? ⟨0, 7, none⟩ = some (.bool true) := hk 7 _ rfl
  have k2 : w.cell? ⟨0, 8, none⟩ = some (.bool false) := hk 8 _ rfl
  have hg : 0 < w.heap.size := cell_lt k0
  unfold str at k0
  obtain ⟨SA, kS, rfl, _⟩ := hs
  obtain ⟨TA, kT, rfl, _⟩ := ht
  clear hk hc cs ct cs12 ctx HL
  go_enter Tryz.func29, Tryz.ntmps29
  go_upto_region 2 with (fail)
  have BA := Lib.hid ((Blk.new w 32 #[.int .i64 2, .slice SA s.length kS, .slice TA t.length kT, .int .i64 n]).alloc (.cells #[.string ⟨#[115, 97, 109, 101]⟩, .bool true, .bool false] 91))
  have BK := Lib.hid (Blk.newAt (w := w.alloc (.cells #[.int .i64 2, .slice SA s.length kS, .slice TA t.length kT, .int .i64 n] 32)) (g := w.heap.size + 1) (by simp) 91 #[.string ⟨#[115, 97, 109, 101]⟩, .bool true, .bool false])
  have hq1 : Below w.heap.size w ((w.alloc (.cells #[.int .i64 2, .slice SA s.length kS, .slice TA t.length kT, .int .i64 n] 32)).alloc (.cells #[.string ⟨#[115, 97, 109, 101]⟩, .bool true, .bool false] 91)) := by (repeat' (first | (with_reducible exact Below.refl _ _) | (with_reducible assumption) | (with_reducible refine Below.next ?_ (by with_reducible assumption)) | (with_reducible refine Below.drew ?_) | (with_reducible refine Below.laid ?_ _) | (with_reducible refine Below.setCell ?_ ?_ _) | (with_reducible refine size_of ?_) | (with_reducible refine Nat.le_succ_of_le ?_) | go_size))
  clear k0 k1 k2 hg cn
  revert BA BK hq1
  generalize (w.alloc (.cells #[.int .i64 2, .slice SA s.length kS, .slice TA t.length kT, .int .i64 n] 32)).alloc (.cells #[.string ⟨#[115, 97, 109, 101]⟩, .bool true, .bool false] 91) = w1
  intro BA BK hq1
  go_cut [4] (fun z wx => ∃ g, z = .slice (some ⟨g, 0, none⟩) 2 2 ∧ Blk wx g 9 #[.string ⟨#[115, 97, 109, 101]⟩, .string ⟨(textB s).toArray⟩] ∧ w1.heap.size ≤ g ∧ Below w1.heap.size w1 wx)
  case first =>
    obtain ⟨a0, a1, a2, a3⟩ := BA.out.cells4
    have c0 := BK.out.cell 0
    simp at c0
    have HTD := Lib.hid (HTX.out w1.drew hq1.drew)
    clear HT20 HTX
    go_region_law (go_simp; go_at_call 52; refine (HTD.out).mono ?_; rintro e w2 ⟨rfl, hb2⟩; have c0' : w2.cell? ⟨w.heap.size + 1, 0, none⟩ = some (.string ⟨#[115, 97, 109, 101]⟩) := ((BK.out.drew).keep hb2).cell 0)
    all_goals
      have hal : Below w1.heap.size w1 w2 := Below.next (Below.refl _ w1).drew hb2
      go_wp2
      go_meet
      case rel => exact ⟨w2.heap.size, rfl, Blk.new _ _ _, hal.size, hal.alloc hal.size _⟩
  case rest =>
  obtain ⟨g, rfl, hbg, hgg, hb2⟩ := hcut
  obtain ⟨w2, rfl⟩ : ∃ w2 : World, w2 = wc := ⟨_, rfl⟩
  have HO2 := Lib.hid (own_lit2 hbg hgg)
  clear hbg hgg HTX
  obtain ⟨a0, a1, a2, a3⟩ := (BA.out.keep hb2).cells4
  have c1 := (BK.out.keep hb2).cell 1
  have c2 := (BK.out.keep hb2).cell 2
  simp at c1 c2
  go_wp2_with fail
  refine (HTY.out _ (Below.next hq1 hb2)).mono ?_
  rintro e w3 ⟨rfl, hk3⟩
  have hal : Below w3.heap.size w3 (w3.alloc (.cells #[.string ⟨(textB t).toArray⟩] 9)) := by have w := w3; (repeat' (first | (with_reducible exact Below.refl _ _) | (with_reducible assumption) | (with_reducible refine Below.next ?_ (by with_reducible assumption)) | (with_reducible refine Below.drew ?_) | (with_reducible refine Below.laid ?_ _) | (with_reducible refine Below.setCell ?_ ?_ _) | (with_reducible refine size_of ?_) | (with_reducible refine Nat.le_succ_of_le ?_) | go_size))
  have hka := Below.next hk3 hal
  have hb1a := Below.next hb2 hka
  have hown := own_kept HO2.out hka
  have hbase : w1.heap.size ≤ (w3.alloc (.cells #[.string ⟨(textB t).toArray⟩] 9)).heap.size := hb1a.size
  clear a0 a1 a2 a3 c1 c2
  go_wp2_with (at_builtin; refine wpList_app1s _ rfl _ _ rfl w1.heap.size _ 2 _ rfl hown w3.heap.size 1 ⟨(textB t).toArray⟩ (by simp [go_sem]) (by simp) (by omega) hbase ?_)
  intro v4 w4 hown4 hg4
  have hb4 := hb1a.grown hg4 hb1a.size (fun b e => (HO2.out.lt b e).1)
  have HO4 := Lib.hid hown4
  clear hown4 hg4 hb1a hka hal hown hbase hk3
  obtain ⟨a0, a1, a2, a3⟩ := (BA.out.keep hb4).cells4
  have c1 := (BK.out.keep hb4).cell 1
  have c2 := (BK.out.keep hb4).cell 2
  simp at c1 c2
  have HJ := Lib.hid (join_own [[115, 97, 109, 101], textB s, textB t] (show w4.ownsRow w1.heap.size 9 1 _ 3 (([[115, 97, 109, 101], textB s, textB t] : List (List UInt8)).map fun l => Value.string ⟨l.toArray⟩) from HO4.out) (by decide) (by decide) HT20.out)
  clear HT20
  go_wp2_with fail
  refine (HJ.out).mono ?_
  rintro e wz ⟨rfl, hbz⟩
  go_wp2
  go_ret
  exact ⟨rfl, Below.next (Below.next hq1 hb4) hbz⟩
set_option maxHeartbeats 4000000 in
set_option maxRecDepth 100000 in
theorem atom_Text3 (n : Int) (sv tv : Value) (s t : List Int) (w : World) (hs : IsInts w sv s) (ht : IsInts w tv t) (hk : KindsOk w) (htab : TabOk w) (hc : Venn.atomChk ⟨3, s, t, n⟩ = 0) :
    Calls Tryz.prog 29 #[.agg #[.int .i64 3, sv, tv, .int .i64 n]] w (Keeps (.string ⟨(textA ⟨3, s, t, n⟩).toArray⟩) w) := by
  obtain ⟨cs, ct, cn⟩ := atomText_parts hc
  simp only at cs ct cn
  obtain ⟨_, cs12, _⟩ := Venn.termChk_parts cs
  have ctx := (Venn.termChk_parts cs).2.1
  have HL := Lib.hid (show textA ⟨3, s, t, n⟩ = Lib.join [[108, 101, 97, 115, 116], textB s, Lib.itoa n] [32] from rfl)
  have HT20 := Lib.hid (show ∀ x ∈ ([[108, 101, 97, 115, 116], textB s, Lib.itoa n] : List (List UInt8)), x.length ≤ 20 from by
    intro x hx
    simp only [List.mem_cons, List.not_mem_nil, or_false] at hx
    rcases hx with rfl | rfl | rfl
    · decide
    · rw [textB_len]; omega

    · have := itoa_len cn; omega)
  rw [HL.out]
  have HTX := Lib.hid (fun W (hW : Below w.heap.size w W) => term_Text sv s W (hs.keep hW) cs)

  have HIT := Lib.hid (fun W (hW : Below w.heap.size w W) => strconv_Itoa n (by omega) (by omega) W (htab.keep hW))
  have k0 : w.cell? ⟨0, 9, none⟩ = some (str [108, 101, 97, 115, 116]) := hk 9 _ rfl
  have k1 : w.cell? ⟨0, 10, none⟩ = some (.bool false) := hk 10 _ rfl
  have k2 : w.cell? ⟨0, 11, none⟩ = some (.bool true) := hk 11 _ rfl
  have hg : 0 < w.heap.size := cell_lt k0
  unfold str at k0
  obtain ⟨SA, kS, rfl, _⟩ := hs
  obtain ⟨TA, kT, rfl, _⟩ := ht
  clear hk htab hc cs ct cs12 ctx HL
  go_enter Tryz.func29, Tryz.ntmps29
  go_upto_region 2 with (fail)
  have BA := Lib.hid ((Blk.new w 32 #[.int .i64 3, .slice SA s.length kS, .slice TA t.length kT, .int .i64 n]).alloc (.cells #[.string ⟨#[108, 101, 97, 115, 116]⟩, .bool false, .bool true] 91))
  have BK := Lib.hid (Blk.newAt (w := w.alloc (.cells #[.int .i64 3, .slice SA s.length kS, .slice TA t.length kT, .int .i64 n] 32)) (g := w.heap.size + 1) (by simp) 91 #[.string ⟨#[108, 101, 97, 115, 116]⟩, .bool false, .bool true])
  have hq1 : Below w.heap.size w ((w.alloc (.cells #[.int .i64 3, .slice SA s.length kS, .slice TA t.length kT, .int .i64 n] 32)).alloc (.cells #[.string ⟨#[108, 101, 97, 115, 116]⟩, .bool false, .bool true] 91)) := by (repeat' (first | (with_reducible exact Below.refl _ _) | (with_reducible assumption) | (with_reducible refine Below.next ?_ (by with_reducible assumption)) | (with_reducible refine Below.drew ?_) | (with_reducible refine Below.laid ?_ _) | (with_reducible refine Below.setCell ?_ ?_ _) | (with_reducible refine size_of ?_) | (with_reducible refine Nat.le_succ_of_le ?_) | go_size))
  clear k0 k1 k2 hg cn
  revert BA BK hq1
  generalize (w.alloc (.cells #[.int .i64 3, .slice SA s.length kS, .slice TA t.length kT, .int .i64 n] 32)).alloc (.cells #[.string ⟨#[108, 101, 97, 115, 116]⟩, .bool false, .bool true] 91) = w1
  intro BA BK hq1
  go_cut [4] (fun z wx => ∃ g, z = .slice (some ⟨g, 0, none⟩) 2 2 ∧ Blk wx g 9 #[.string ⟨#[108, 101, 97, 115, 116]⟩, .string ⟨(textB s).toArray⟩] ∧ w1.heap.size ≤ g ∧ Below w1.heap.size w1 wx)
  case first =>
    obtain ⟨a0, a1, a2, a3⟩ := BA.out.cells4
    have c0 := BK.out.cell 0
    simp at c0
    have HTD := Lib.hid (HTX.out w1.drew hq1.drew)
    clear HT20 HTX
    go_region_law (go_simp; go_at_call 52; refine (HTD.out).mono ?_; rintro e w2 ⟨rfl, hb2⟩; have c0' : w2.cell? ⟨w.heap.size + 1, 0, none⟩ = some (.string ⟨#[108, 101, 97, 115, 116]⟩) := ((BK.out.drew).keep hb2).cell 0)
    all_goals
      have hal : Below w1.heap.size w1 w2 := Below.next (Below.refl _ w1).drew hb2
      go_wp2
      go_meet
      case rel => exact ⟨w2.heap.size, rfl, Blk.new _ _ _, hal.size, hal.alloc hal.size _⟩
  case rest =>
  obtain ⟨g, rfl, hbg, hgg, hb2⟩ := hcut
  obtain ⟨w2, rfl⟩ : ∃ w2 : World, w2 = wc := ⟨_, rfl⟩
  have HO2 := Lib.hid (own_lit2 hbg hgg)
  clear hbg hgg HTX
  obtain ⟨a0, a1, a2, a3⟩ := (BA.out.keep hb2).cells4
  have c1 := (BK.out.keep hb2).cell 1
  have c2 := (BK.out.keep hb2).cell 2
  simp at c1 c2
  go_wp2_with fail
  refine (HIT.out _ (Below.next hq1 hb2)).mono ?_
  rintro e w3 ⟨rfl, hk3⟩
  have hal : Below w3.heap.size w3 (w3.alloc (.cells #[.string ⟨(Lib.itoa n).toArray⟩] 9)) := by have w := w3; (repeat' (first | (with_reducible exact Below.refl _ _) | (with_reducible assumption) | (with_reducible refine Below.next ?_ (by with_reducible assumption)) | (with_reducible refine Below.drew ?_) | (with_reducible refine Below.laid ?_ _) | (with_reducible refine Below.setCell ?_ ?_ _) | (with_reducible refine size_of ?_) | (with_reducible refine Nat.le_succ_of_le ?_) | go_size))
  have hka := Below.next hk3 hal
  have hb1a := Below.next hb2 hka
  have hown := own_kept HO2.out hka
  have hbase : w1.heap.size ≤ (w3.alloc (.cells #[.string ⟨(Lib.itoa n).toArray⟩] 9)).heap.size := hb1a.size
  clear a0 a1 a2 a3 c1 c2
  go_wp2_with (at_builtin; refine wpList_app1s _ rfl _ _ rfl w1.heap.size _ 2 _ rfl hown w3.heap.size 1 ⟨(Lib.itoa n).toArray⟩ (by simp [go_sem]) (by simp) (by omega) hbase ?_)
  intro v4 w4 hown4 hg4
  have hb4 := hb1a.grown hg4 hb1a.size (fun b e => (HO2.out.lt b e).1)
  have HO4 := Lib.hid hown4
  clear hown4 hg4 hb1a hka hal hown hbase hk3
  obtain ⟨a0, a1, a2, a3⟩ := (BA.out.keep hb4).cells4
  have c1 := (BK.out.keep hb4).cell 1
  have c2 := (BK.out.keep hb4).cell 2
  simp at c1 c2
  have HJ := Lib.hid (join_own [[108, 101, 97, 115, 116], textB s, Lib.itoa n] (show w4.ownsRow w1.heap.size 9 1 _ 3 (([[108, 101, 97, 115, 116], textB s, Lib.itoa n] : List (List UInt8)).map fun l => Value.string ⟨l.toArray⟩) from HO4.out) (by decide) (by decide) HT20.out)
  clear HT20
  go_wp2_with fail
  refine (HJ.out).mono ?_
  rintro e wz ⟨rfl, hbz⟩
  go_wp2
  go_ret
  exact ⟨rfl, Below.next (Below.next hq1 hb4) hbz⟩
set_option maxHeartbeats 4000000 in
set_option maxRecDepth 100000 in
theorem atom_Text4 (n : Int) (sv tv : Value) (s t : List Int) (w : World) (hs : IsInts w sv s) (ht : IsInts w tv t) (hk : KindsOk w) (htab : TabOk w) (hc : Venn.atomChk ⟨4, s, t, n⟩ = 0) :
    Calls Tryz.prog 29 #[.agg #[.int .i64 4, sv, tv, .int .i64 n]] w (Keeps (.string ⟨(textA ⟨4, s, t, n⟩).toArray⟩) w) := by
  obtain ⟨cs, ct, cn⟩ := atomText_parts hc
  simp only at cs ct cn
  obtain ⟨_, cs12, _⟩ := Venn.termChk_parts cs
  have ctx := (Venn.termChk_parts cs).2.1
  have HL := Lib.hid (show textA ⟨4, s, t, n⟩ = Lib.join [[109, 111, 115, 116], textB s, Lib.itoa n] [32] from rfl)
  have HT20 := Lib.hid (show ∀ x ∈ ([[109, 111, 115, 116], textB s, Lib.itoa n] : List (List UInt8)), x.length ≤ 20 from by
    intro x hx
    simp only [List.mem_cons, List.not_mem_nil, or_false] at hx
    rcases hx with rfl | rfl | rfl
    · decide
    · rw [textB_len]; omega

    · have := itoa_len cn; omega)
  rw [HL.out]
  have HTX := Lib.hid (fun W (hW : Below w.heap.size w W) => term_Text sv s W (hs.keep hW) cs)

  have HIT := Lib.hid (fun W (hW : Below w.heap.size w W) => strconv_Itoa n (by omega) (by omega) W (htab.keep hW))
  have k0 : w.cell? ⟨0, 12, none⟩ = some (str [109, 111, 115, 116]) := hk 12 _ rfl
  have k1 : w.cell? ⟨0, 13, none⟩ = some (.bool false) := hk 13 _ rfl
  have k2 : w.cell? ⟨0, 14, none⟩ = some (.bool true) := hk 14 _ rfl
  have hg : 0 < w.heap.size := cell_lt k0
  unfold str at k0
  obtain ⟨SA, kS, rfl, _⟩ := hs
  obtain ⟨TA, kT, rfl, _⟩ := ht
  clear hk htab hc cs ct cs12 ctx HL
  go_enter Tryz.func29, Tryz.ntmps29
  go_upto_region 2 with (fail)
  have BA := Lib.hid ((Blk.new w 32 #[.int .i64 4, .slice SA s.length kS, .slice TA t.length kT, .int .i64 n]).alloc (.cells #[.string ⟨#[109, 111, 115, 116]⟩, .bool false, .bool true] 91))
  have BK := Lib.hid (Blk.newAt (w := w.alloc (.cells #[.int .i64 4, .slice SA s.length kS, .slice TA t.length kT, .int .i64 n] 32)) (g := w.heap.size + 1) (by simp) 91 #[.string ⟨#[109, 111, 115, 116]⟩, .bool false, .bool true])
  have hq1 : Below w.heap.size w ((w.alloc (.cells #[.int .i64 4, .slice SA s.length kS, .slice TA t.length kT, .int .i64 n] 32)).alloc (.cells #[.string ⟨#[109, 111, 115, 116]⟩, .bool false, .bool true] 91)) := by (repeat' (first | (with_reducible exact Below.refl _ _) | (with_reducible assumption) | (with_reducible refine Below.next ?_ (by with_reducible assumption)) | (with_reducible refine Below.drew ?_) | (with_reducible refine Below.laid ?_ _) | (with_reducible refine Below.setCell ?_ ?_ _) | (with_reducible refine size_of ?_) | (with_reducible refine Nat.le_succ_of_le ?_) | go_size))
  clear k0 k1 k2 hg cn
  revert BA BK hq1
  generalize (w.alloc (.cells #[.int .i64 4, .slice SA s.length kS, .slice TA t.length kT, .int .i64 n] 32)).alloc (.cells #[.string ⟨#[109, 111, 115, 116]⟩, .bool false, .bool true] 91) = w1
  intro BA BK hq1
  go_cut [4] (fun z wx => ∃ g, z = .slice (some ⟨g, 0, none⟩) 2 2 ∧ Blk wx g 9 #[.string ⟨#[109, 111, 115, 116]⟩, .string ⟨(textB s).toArray⟩] ∧ w1.heap.size ≤ g ∧ Below w1.heap.size w1 wx)
  case first =>
    obtain ⟨a0, a1, a2, a3⟩ := BA.out.cells4
    have c0 := BK.out.cell 0
    simp at c0
    have HTD := Lib.hid (HTX.out w1.drew hq1.drew)
    clear HT20 HTX
    go_region_law (go_simp; go_at_call 52; refine (HTD.out).mono ?_; rintro e w2 ⟨rfl, hb2⟩; have c0' : w2.cell? ⟨w.heap.size + 1, 0, none⟩ = some (.string ⟨#[109, 111, 115, 116]⟩) := ((BK.out.drew).keep hb2).cell 0)
    all_goals
      have hal : Below w1.heap.size w1 w2 := Below.next (Below.refl _ w1).drew hb2
      go_wp2
      go_meet
      case rel => exact ⟨w2.heap.size, rfl, Blk.new _ _ _, hal.size, hal.alloc hal.size _⟩
  case rest =>
  obtain ⟨g, rfl, hbg, hgg, hb2⟩ := hcut
  obtain ⟨w2, rfl⟩ : ∃ w2 : World, w2 = wc := ⟨_, rfl⟩
  have HO2 := Lib.hid (own_lit2 hbg hgg)
  clear hbg hgg HTX
  obtain ⟨a0, a1, a2, a3⟩ := (BA.out.keep hb2).cells4
  have c1 := (BK.out.keep hb2).cell 1
  have c2 := (BK.out.keep hb2).cell 2
  simp at c1 c2
  go_wp2_with fail
  refine (HIT.out _ (Below.next hq1 hb2)).mono ?_
  rintro e w3 ⟨rfl, hk3⟩
  have hal : Below w3.heap.size w3 (w3.alloc (.cells #[.string ⟨(Lib.itoa n).toArray⟩] 9)) := by have w := w3; (repeat' (first | (with_reducible exact Below.refl _ _) | (with_reducible assumption) | (with_reducible refine Below.next ?_ (by with_reducible assumption)) | (with_reducible refine Below.drew ?_) | (with_reducible refine Below.laid ?_ _) | (with_reducible refine Below.setCell ?_ ?_ _) | (with_reducible refine size_of ?_) | (with_reducible refine Nat.le_succ_of_le ?_) | go_size))
  have hka := Below.next hk3 hal
  have hb1a := Below.next hb2 hka
  have hown := own_kept HO2.out hka
  have hbase : w1.heap.size ≤ (w3.alloc (.cells #[.string ⟨(Lib.itoa n).toArray⟩] 9)).heap.size := hb1a.size
  clear a0 a1 a2 a3 c1 c2
  go_wp2_with (at_builtin; refine wpList_app1s _ rfl _ _ rfl w1.heap.size _ 2 _ rfl hown w3.heap.size 1 ⟨(Lib.itoa n).toArray⟩ (by simp [go_sem]) (by simp) (by omega) hbase ?_)
  intro v4 w4 hown4 hg4
  have hb4 := hb1a.grown hg4 hb1a.size (fun b e => (HO2.out.lt b e).1)
  have HO4 := Lib.hid hown4
  clear hown4 hg4 hb1a hka hal hown hbase hk3
  obtain ⟨a0, a1, a2, a3⟩ := (BA.out.keep hb4).cells4
  have c1 := (BK.out.keep hb4).cell 1
  have c2 := (BK.out.keep hb4).cell 2
  simp at c1 c2
  have HJ := Lib.hid (join_own [[109, 111, 115, 116], textB s, Lib.itoa n] (show w4.ownsRow w1.heap.size 9 1 _ 3 (([[109, 111, 115, 116], textB s, Lib.itoa n] : List (List UInt8)).map fun l => Value.string ⟨l.toArray⟩) from HO4.out) (by decide) (by decide) HT20.out)
  clear HT20
  go_wp2_with fail
  refine (HJ.out).mono ?_
  rintro e wz ⟨rfl, hbz⟩
  go_wp2
  go_ret
  exact ⟨rfl, Below.next (Below.next hq1 hb4) hbz⟩
set_option maxHeartbeats 4000000 in
set_option maxRecDepth 100000 in
theorem atom_Text5 (n : Int) (sv tv : Value) (s t : List Int) (w : World) (hs : IsInts w sv s) (ht : IsInts w tv t) (hk : KindsOk w) (htab : TabOk w) (hc : Venn.atomChk ⟨5, s, t, n⟩ = 0) :
    Calls Tryz.prog 29 #[.agg #[.int .i64 5, sv, tv, .int .i64 n]] w (Keeps (.string ⟨(textA ⟨5, s, t, n⟩).toArray⟩) w) := by
  obtain ⟨cs, ct, cn⟩ := atomText_parts hc
  simp only at cs ct cn
  obtain ⟨_, cs12, _⟩ := Venn.termChk_parts cs
  have ctx := (Venn.termChk_parts cs).2.1
  have HL := Lib.hid (show textA ⟨5, s, t, n⟩ = Lib.join [[110, 111, 109, 111, 114, 101], textB s, textB t, Lib.itoa n] [32] from rfl)
  have HT20 := Lib.hid (show ∀ x ∈ ([[110, 111, 109, 111, 114, 101], textB s, textB t, Lib.itoa n] : List (List UInt8)), x.length ≤ 20 from by
    intro x hx
    simp only [List.mem_cons, List.not_mem_nil, or_false] at hx
    rcases hx with rfl | rfl | rfl | rfl
    · decide
    · rw [textB_len]; omega
    · rw [textB_len]; have := (Venn.termChk_parts (ct rfl)).2.1; omega
    · have := itoa_len cn; omega)
  rw [HL.out]
  have HTX := Lib.hid (fun W (hW : Below w.heap.size w W) => term_Text sv s W (hs.keep hW) cs)
  have HTY := Lib.hid (fun W (hW : Below w.heap.size w W) => term_Text tv t W (ht.keep hW) (ct rfl))
  have HIT := Lib.hid (fun W (hW : Below w.heap.size w W) => strconv_Itoa n (by omega) (by omega) W (htab.keep hW))
  have k0 : w.cell? ⟨0, 15, none⟩ = some (str [110, 111, 109, 111, 114, 101]) := hk 15 _ rfl
  have k1 : w.cell? ⟨0, 16, none⟩ = some (.bool true) := hk 16 _ rfl
  have k2 : w.cell? ⟨0, 17, none⟩ = some (.bool true) := hk 17 _ rfl
  have hg : 0 < w.heap.size := cell_lt k0
  unfold str at k0
  obtain ⟨SA, kS, rfl, _⟩ := hs
  obtain ⟨TA, kT, rfl, _⟩ := ht
  clear hk htab hc cs ct cs12 ctx HL
  go_enter Tryz.func29, Tryz.ntmps29
  go_upto_region 2 with (fail)
  have BA := Lib.hid ((Blk.new w 32 #[.int .i64 5, .slice SA s.length kS, .slice TA t.length kT, .int .i64 n]).alloc (.cells #[.string ⟨#[110, 111, 109, 111, 114, 101]⟩, .bool true, .bool true] 91))
  have BK := Lib.hid (Blk.newAt (w := w.alloc (.cells #[.int .i64 5, .slice SA s.length kS, .slice TA t.length kT, .int .i64 n] 32)) (g := w.heap.size + 1) (by simp) 91 #[.string ⟨#[110, 111, 109, 111, 114, 101]⟩, .bool true, .bool true])
  have hq1 : Below w.heap.size w ((w.alloc (.cells #[.int .i64 5, .slice SA s.length kS, .slice TA t.length kT, .int .i64 n] 32)).alloc (.cells #[.string ⟨#[110, 111, 109, 111, 114, 101]⟩, .bool true, .bool true] 91)) := by (repeat' (first | (with_reducible exact Below.refl _ _) | (with_reducible assumption) | (with_reducible refine Below.next ?_ (by with_reducible assumption)) | (with_reducible refine Below.drew ?_) | (with_reducible refine Below.laid ?_ _) | (with_reducible refine Below.setCell ?_ ?_ _) | (with_reducible refine size_of ?_) | (with_reducible refine Nat.le_succ_of_le ?_) | go_size))
  clear k0 k1 k2 hg cn
  revert BA BK hq1
  generalize (w.alloc (.cells #[.int .i64 5, .slice SA s.length kS, .slice TA t.length kT, .int .i64 n] 32)).alloc (.cells #[.string ⟨#[110, 111, 109, 111, 114, 101]⟩, .bool true, .bool true] 91) = w1
  intro BA BK hq1
  go_cut [4] (fun z wx => ∃ g, z = .slice (some ⟨g, 0, none⟩) 2 2 ∧ Blk wx g 9 #[.string ⟨#[110, 111, 109, 111, 114, 101]⟩, .string ⟨(textB s).toArray⟩] ∧ w1.heap.size ≤ g ∧ Below w1.heap.size w1 wx)
  case first =>
    obtain ⟨a0, a1, a2, a3⟩ := BA.out.cells4
    have c0 := BK.out.cell 0
    simp at c0
    have HTD := Lib.hid (HTX.out w1.drew hq1.drew)
    clear HT20 HTX
    go_region_law (go_simp; go_at_call 52; refine (HTD.out).mono ?_; rintro e w2 ⟨rfl, hb2⟩; have c0' : w2.cell? ⟨w.heap.size + 1, 0, none⟩ = some (.string ⟨#[110, 111, 109, 111, 114, 101]⟩) := ((BK.out.drew).keep hb2).cell 0)
    all_goals
      have hal : Below w1.heap.size w1 w2 := Below.next (Below.refl _ w1).drew hb2
      go_wp2
      go_meet
      case rel => exact ⟨w2.heap.size, rfl, Blk.new _ _ _, hal.size, hal.alloc hal.size _⟩
  case rest =>
  obtain ⟨g, rfl, hbg, hgg, hb2⟩ := hcut
  obtain ⟨w2, rfl⟩ : ∃ w2 : World, w2 = wc := ⟨_, rfl⟩
  have HO2 := Lib.hid (own_lit2 hbg hgg)
  clear hbg hgg HTX
  obtain ⟨a0, a1, a2, a3⟩ := (BA.out.keep hb2).cells4
  have c1 := (BK.out.keep hb2).cell 1
  have c2 := (BK.out.keep hb2).cell 2
  simp at c1 c2
  go_wp2_with fail
  refine (HTY.out _ (Below.next hq1 hb2)).mono ?_
  rintro e w3 ⟨rfl, hk3⟩
  have hal : Below w3.heap.size w3 (w3.alloc (.cells #[.string ⟨(textB t).toArray⟩] 9)) := by have w := w3; (repeat' (first | (with_reducible exact Below.refl _ _) | (with_reducible assumption) | (with_reducible refine Below.next ?_ (by with_reducible assumption)) | (with_reducible refine Below.drew ?_) | (with_reducible refine Below.laid ?_ _) | (with_reducible refine Below.setCell ?_ ?_ _) | (with_reducible refine size_of ?_) | (with_reducible refine Nat.le_succ_of_le ?_) | go_size))
  have hka := Below.next hk3 hal
  have hb1a := Below.next hb2 hka
  have hown := own_kept HO2.out hka
  have hbase : w1.heap.size ≤ (w3.alloc (.cells #[.string ⟨(textB t).toArray⟩] 9)).heap.size := hb1a.size
  clear a0 a1 a2 a3 c1 c2
  go_wp2_with (at_builtin; refine wpList_app1s _ rfl _ _ rfl w1.heap.size _ 2 _ rfl hown w3.heap.size 1 ⟨(textB t).toArray⟩ (by simp [go_sem]) (by simp) (by omega) hbase ?_)
  intro v4 w4 hown4 hg4
  have hb4 := hb1a.grown hg4 hb1a.size (fun b e => (HO2.out.lt b e).1)
  have HO4 := Lib.hid hown4
  clear hown4 hg4 hb1a hka hal hown hbase hk3
  obtain ⟨a0, a1, a2, a3⟩ := (BA.out.keep hb4).cells4
  have c1 := (BK.out.keep hb4).cell 1
  have c2 := (BK.out.keep hb4).cell 2
  simp at c1 c2
  go_wp2_with fail
  refine (HIT.out _ (Below.next hq1 hb4)).mono ?_
  rintro e w5 ⟨rfl, hk5⟩
  have hal : Below w5.heap.size w5 (w5.alloc (.cells #[.string ⟨(Lib.itoa n).toArray⟩] 9)) := by have w := w5; (repeat' (first | (with_reducible exact Below.refl _ _) | (with_reducible assumption) | (with_reducible refine Below.next ?_ (by with_reducible assumption)) | (with_reducible refine Below.drew ?_) | (with_reducible refine Below.laid ?_ _) | (with_reducible refine Below.setCell ?_ ?_ _) | (with_reducible refine size_of ?_) | (with_reducible refine Nat.le_succ_of_le ?_) | go_size))
  have hka := Below.next hk5 hal
  have hb1a := Below.next hb4 hka
  have hown := own_kept HO4.out hka
  have hbase : w1.heap.size ≤ (w5.alloc (.cells #[.string ⟨(Lib.itoa n).toArray⟩] 9)).heap.size := hb1a.size
  clear a0 a1 a2 a3 c1 c2
  go_wp2_with (at_builtin; refine wpList_app1s _ rfl _ _ rfl w1.heap.size _ 3 _ rfl hown w5.heap.size 1 ⟨(Lib.itoa n).toArray⟩ (by simp [go_sem]) (by simp) (by omega) hbase ?_)
  intro v6 w6 hown6 hg6
  have hb6 := hb1a.grown hg6 hb1a.size (fun b e => (HO4.out.lt b e).1)
  have HO6 := Lib.hid hown6
  clear hown6 hg6 hb1a hka hal hown hbase hk5
  obtain ⟨a0, a1, a2, a3⟩ := (BA.out.keep hb6).cells4
  have c1 := (BK.out.keep hb6).cell 1
  have c2 := (BK.out.keep hb6).cell 2
  simp at c1 c2
  have HJ := Lib.hid (join_own [[110, 111, 109, 111, 114, 101], textB s, textB t, Lib.itoa n] (show w6.ownsRow w1.heap.size 9 1 _ 4 (([[110, 111, 109, 111, 114, 101], textB s, textB t, Lib.itoa n] : List (List UInt8)).map fun l => Value.string ⟨l.toArray⟩) from HO6.out) (by decide) (by decide) HT20.out)
  clear HT20
  go_wp2_with fail
  refine (HJ.out).mono ?_
  rintro e wz ⟨rfl, hbz⟩
  go_wp2
  go_ret
  exact ⟨rfl, Below.next (Below.next hq1 hb6) hbz⟩
theorem atom_Text (what n : Int) (sv tv : Value) (s t : List Int) (w : World) (hs : IsInts w sv s) (ht : IsInts w tv t) (hk : KindsOk w) (htab : TabOk w) (hc : Venn.atomChk ⟨what, s, t, n⟩ = 0) :
    Calls Tryz.prog 29 #[.agg #[.int .i64 what, sv, tv, .int .i64 n]] w (Keeps (.string ⟨(textA ⟨what, s, t, n⟩).toArray⟩) w) := by
  have hw : 1 ≤ what ∧ what ≤ 5 := by
    have h := hc
    unfold Venn.atomChk at h
    split at h
    · cases h
    · rename_i h1
      simp only at h1
      omega
  rcases (by omega : what = 1 ∨ what = 2 ∨ what = 3 ∨ what = 4 ∨ what = 5) with rfl | rfl | rfl | rfl | rfl
  · exact atom_Text1 n sv tv s t w hs ht hk htab hc
  · exact atom_Text2 n sv tv s t w hs ht hk htab hc
  · exact atom_Text3 n sv tv s t w hs ht hk htab hc
  · exact atom_Text4 n sv tv s t w hs ht hk htab hc
  · exact atom_Text5 n sv tv s t w hs ht hk htab hc
end Go.Proofs.YtjnjgcibhjdmdaaGreatDoor

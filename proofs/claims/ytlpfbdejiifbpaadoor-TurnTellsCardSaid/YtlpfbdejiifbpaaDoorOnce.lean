/-
  THE WALKS of slices.Collect, slices.Sorted at integers, and of turn.once.
-/
import Derived.Test.YtlpfbdejiifbpaaDoorSeq
import Derived.Test.YtlpfbdejiifbpaaDoorSortL
import Derived.Test.YtlpfbdejiifbpaaDoorVennRen
import Derived.Test.YtlpfbdejiifbpaaDoorOwn
import Derived.Lib.SlKeysI
namespace Go.Proofs.YtlpfbdejiifbpaaDoor
open Go.RowKit Go.Shelf Go.Sort

def CollectPost (zs : List Int) (w : World) (e : Ending) (w' : World) : Prop := ∃ v, e = .returned v ∧ w'.ownsRow w.heap.size 3 1 v zs.length (zs.map (Value.int .i64)) ∧ Below w.heap.size w w'
set_option maxHeartbeats 1000000 in
theorem slices_Collect (b : Nat) (A : Option Addr) (c : Nat) (zs : List Int) (hlen : zs.length ≤ 1000) (w : World) (hb : w.cell? ⟨b, 0, none⟩ = some (.slice A zs.length c)) (hr : Rd w A (zs.map (Value.int .i64))) :
    Calls Tryd.prog 56 #[valuesV b] w (CollectPost zs w) := by
  have hcon := (callsIn_wide (n := 5)).1 (appendSeq_in 5 (by decide) b A c zs hlen w hb (fun j x hj => hr j _ (by rw [List.getElem?_map, hj]; rfl)))
  have HC := Lib.hid hcon
  clear hcon hb hr
  go_enter Tryd.func56, Tryd.ntmps56
  go_wp2_with fail
  refine HC.out.mono ?_
  rintro e w1 ⟨v, rfl, hown, hb⟩
  obtain ⟨OA, oc, rfl⟩ := ownsRow_slice hown
  go_wp2
  go_ret
  exact ⟨_, rfl, hown, hb⟩
theorem sort_ints (g cap : Nat) (zs : List Int) (w : World) (hH : Holds (Value.int .i64) w g 0 zs.toArray) (hblk : g < w.heap.size) (hsz : zs.length ≤ 1000) :
    Calls Tryd.prog 57 #[.slice (some ⟨g, 0, none⟩) zs.length cap] w fun e w' => e = .returned (.tuple #[]) ∧ ∃ n os, w' = grow (putRow (Value.int .i64) (Sort.ahead w n) g 0 (Venn.sortI zs).toArray) os :=
  AnyM.slices_Sort_int sortL g 0 cap zs w hH hblk (by omega)
theorem sort_none (p : Option Addr) (cap : Nat) (w : World) : Calls Tryd.prog 57 #[.slice p 0 cap] w fun e w' => e = .returned (.tuple #[]) ∧ w' = w :=
  AnyM.slices_Sort_int_none sortL p cap w
set_option maxHeartbeats 1000000 in
theorem slices_Sorted (b : Nat) (A : Option Addr) (c : Nat) (zs : List Int) (hlen : zs.length ≤ 1000) (w : World) (hb : w.cell? ⟨b, 0, none⟩ = some (.slice A zs.length c)) (hr : Rd w A (zs.map (Value.int .i64))) :
    Calls Tryd.prog 42 #[valuesV b] w (CollectPost (Venn.sortI zs) w) := by
  have HC := Lib.hid (slices_Collect b A c zs hlen w hb hr)
  clear hb hr
  have hsl := Venn.sortI_len zs
  have HSL := Lib.hid hsl
  clear hsl
  by_cases h0 : zs.length = 0
  · have hz : zs = [] := List.eq_nil_of_length_eq_zero h0
    subst hz
    go_enter Tryd.func42, Tryd.ntmps42
    go_wp2_with fail
    refine HC.out.mono ?_
    rintro e w1 ⟨v, rfl, hown, hb⟩
    obtain ⟨OA, oc, rfl⟩ := ownsRow_slice hown
    go_wp2_with fail
    refine (sort_none _ _ _).mono ?_
    rintro e w2 ⟨rfl, rfl⟩
    go_wp2
    go_ret
    exact ⟨_, rfl, by simpa [Venn.sortI] using hown, hb⟩
  · go_enter Tryd.func42, Tryd.ntmps42
    go_wp2_with fail
    refine HC.out.mono ?_
    rintro e w1 ⟨v, rfl, hown, hb⟩
    obtain ⟨g, cap, cur, rfl, hg, hB, r1, r2, r3, r4⟩ := own_cons hown (by omega)
    have hH : Holds (Value.int .i64) w1 g 0 zs.toArray := holds_of_block_i hB (by simpa using r4)
    have hgl := hB.lt
    go_wp2_with fail
    refine (sort_ints g cap zs _ hH hgl hlen).mono ?_
    rintro e w2 ⟨rfl, nn, os, rfl⟩
    have hown2 := ownsRow_sorted_i (os := os) (n := nn) (ts := Venn.sortI zs) HSL.out hg hB r1 r2 r3
    have hb2 := hb.grown (grownBy_sorted_i (w := w1) (g := g) (n := nn) (os := os) (Venn.sortI zs).toArray) hb.size (fun j hj => by cases hj; exact hg)
    revert hown2 hb2
    change World.ownsRow (grow (putRow (Value.int .i64) _ _ _ _) _) _ _ _ _ _ _ → Below _ _ (grow (putRow (Value.int .i64) _ _ _ _) _) → _
    generalize grow (putRow (Value.int .i64) _ _ _ _) _ = w3
    intro hown2 hb2
    go_wp2
    go_ret
    exact ⟨_, rfl, by rw [HSL.out]; exact hown2, hb2⟩

theorem upFrom_cons (k : Int) (x : Int) (r : List Int) : Venn.upFrom k (x :: r) = (x == k && Venn.upFrom (k + 1) r) := rfl
set_option maxHeartbeats 2000000 in
theorem turn_once (v : Value) (l : List Int) (w : World) (hl : IsInts w v l) (hn : l.length ≤ 1000) : Calls Tryd.prog 24 #[v] w (Keeps (.bool (Venn.onceV l)) w) := by
  obtain ⟨A, c, rfl, hr, h1, h2⟩ := hl
  have HR := Lib.hid hr
  have HV := Lib.hid (show Venn.onceV l = Venn.upFrom 0 (Venn.sortI l) from rfl)
  have HSL := Lib.hid (Venn.sortI_len l)
  generalize Venn.onceV l = B at HV ⊢
  clear hr
  go_enter Tryd.func24, Tryd.ntmps24
  go_wp2_with fail
  refine (slices_Values _ _ _ _).mono ?_
  rintro e w1 ⟨rfl, rfl⟩
  have hb0 : Below w.heap.size w (w.alloc (.cells #[.slice A l.length c] 23)) := by (repeat' (first | (with_reducible exact Below.refl _ _) | (with_reducible assumption) | (with_reducible refine Below.next ?_ (by with_reducible assumption)) | (with_reducible refine Below.drew ?_) | (with_reducible refine Below.laid ?_ _) | (with_reducible refine Below.setCell ?_ ?_ _) | (with_reducible refine size_of ?_) | (with_reducible refine Nat.le_succ_of_le ?_) | go_size))
  have B0 := (Blk.new w 23 #[.slice A l.length c]).cell 0
  go_wp2_with fail
  refine (slices_Sorted w.heap.size A c l hn _ B0 (HR.out.keep hb0)).mono ?_
  rintro e w2 ⟨v2, rfl, hown2, hb2⟩
  have hw2 := hb0.trans (hb2.mono (by simp))
  have hI := IsInts.of_own hown2
  obtain ⟨A2, c2, rfl, hr2, _, _⟩ := hI
  have HR2 := Lib.hid hr2
  have hn2 : (Venn.sortI l).length ≤ 1000 := by rw [HSL.out]; exact hn
  clear hown2 hr2 B0 hb0 hb2 HSL h1 h2 HR
  generalize Venn.sortI l = ss at HV HR2 hn2
  go_wp2
  go_loop [11] (fun i => ∃ k : Nat, k ≤ ss.length ∧ i = .int .i64 k ∧ B = Venn.upFrom k (ss.drop k)) (fun i => ss.length - (intOf i).toNat)
  case atStart => exact ⟨0, Nat.zero_le _, rfl, HV.out⟩
  case round =>
    obtain ⟨k, hk, rfl, hB⟩ := hrel
    by_cases hlt : k < ss.length
    · obtain ⟨x, hx⟩ : ∃ x, ss[k]? = some x := ⟨ss[k], List.getElem?_eq_getElem hlt⟩
      obtain ⟨ad, rfl, hc⟩ := HR2.out k (.int .i64 x) (by rw [List.getElem?_map, hx]; rfl)
      have hd : ss.drop k = x :: ss.drop (k + 1) := by
        rw [List.drop_eq_getElem_cons hlt]
        rw [List.getElem?_eq_getElem hlt] at hx
        cases hx
        rfl
      rw [hd, upFrom_cons] at hB
      have hk1 : (k : Int) < (ss.length : Int) := by omega
      by_cases hxe : x = (k : Int)
      · subst hxe
        have HB := Lib.hid (show B = Venn.upFrom ((k + 1 : Nat) : Int) (ss.drop (k + 1)) by rw [hB]; simp)
        clear hB hd hx
        go_wp2
        go_round
        case rel => exact ⟨k + 1, by omega, by go_num, HB.out⟩
        case measure => simp [intOf]; omega
      · have hne : ((k : Int) == x) = false := beq_eq_false_iff_ne.2 (fun h => hxe h.symm)
        have HB := Lib.hid (show B = false by rw [hB, beq_eq_false_iff_ne.2 hxe]; rfl)
        clear hB hd hx hxe
        go_wp2
        go_ret
        exact ⟨by rw [HB.out]; rfl, hw2⟩
    · have hk' : k = ss.length := by omega
      subst hk'
      have HB := Lib.hid (show B = true by rw [hB, List.drop_length]; rfl)
      clear hB
      go_wp2
      go_ret
      exact ⟨by rw [HB.out]; rfl, hw2⟩
end Go.Proofs.YtlpfbdejiifbpaaDoor

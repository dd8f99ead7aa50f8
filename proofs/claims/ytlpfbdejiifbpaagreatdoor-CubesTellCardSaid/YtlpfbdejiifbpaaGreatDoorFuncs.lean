/-
  THE WALKS of slices.IndexFunc, slices.ContainsFunc (at integers, and at lists of these; the predicate may lay blocks of its own), slices.Equal, slices.Grow of nil, slices.Concat of two.
-/
import Derived.Test.YtlpfbdejiifbpaaGreatDoorLists
import Derived.Test.YtlpfbdejiifbpaaGreatDoorApp
import Derived.Test.YtlpfbdejiifbpaaGreatDoorOwn
import Derived.Lib.AppendZeros
import Derived.Lib.Walk
namespace Go.Proofs.YtlpfbdejiifbpaaGreatDoor
open Go.RowKit

/-- What a function value answers at x, in every world in which what lies in w lies unturned. -/
def FnGives (g : Nat) (lb : Array Value) (w : World) (x : Value) (b : Bool) : Prop := ∀ W, Below w.heap.size w W → Calls Tryz.prog g (#[x] ++ lb) W (Keeps (.bool b) W)
theorem FnGives.keep {g : Nat} {lb : Array Value} {w w' : World} {x : Value} {b : Bool} (h : FnGives g lb w x b) (hb : Below w.heap.size w w') : FnGives g lb w' x b := fun W hW => h W (Below.next hb hW)
def Finds (b : Bool) (w : World) (e : Ending) (w' : World) : Prop := ∃ k : Int, e = .returned (.int .i64 k) ∧ decide (0 ≤ k) = b ∧ Below w.heap.size w w'
theorem any_drop {α : Type} (p : α → Bool) (l : List α) (k : Nat) (x : α) (h : l[k]? = some x) : (l.drop k).any p = (p x || (l.drop (k + 1)).any p) := by
  obtain ⟨hk, rfl⟩ := List.getElem?_eq_some_iff.1 h
  rw [List.drop_eq_getElem_cons hk, List.any_cons]

set_option maxHeartbeats 1000000 in
theorem indexFunc_ints (g : Nat) (lb : Array Value) (eg : ∀ args w, (callFunc g args).run Tryz.prog w = .ok (.enter g args) w) (A : Option Addr) (c : Nat) (l : List Int) (p : Int → Bool) (w : World) (hr : Rd w A (l.map (Value.int .i64)))
    (hf : ∀ x ∈ l, FnGives g lb w (.int .i64 x) (p x)) (hlen : l.length ≤ maxLen) :
    Calls Tryz.prog 72 #[.slice A l.length c, .func (.func g) #[] lb] w (Finds (l.any p) w) := by
  have hn1 : l.length ≤ 9223372036854775807 := by unfold maxLen at hlen; omega
  clear hlen
  have HF := Lib.hid hf
  have HR := Lib.hid hr
  have HB := Lib.hid (show l.any p = (l.drop 0).any p by rw [List.drop_zero])
  generalize l.any p = B at HB ⊢
  clear hf hr
  go_enter Tryz.func72, Tryz.ntmps72
  go_wp2
  go_loopw [5, 8] (fun _ i wr => ∃ k : Nat, k ≤ l.length ∧ i = .int .i64 k ∧ B = (l.drop k).any p ∧ Below w.heap.size w wr) (fun _ i _ => l.length - (intOf i).toNat)
  case atStart => exact ⟨0, Nat.zero_le _, rfl, HB.out, Below.refl _ _⟩
  case round =>
    obtain ⟨k, hk, rfl, hB, hbel⟩ := hrel
    obtain ⟨wo, rfl⟩ : ∃ wo : World, wo = wr := ⟨_, rfl⟩
    by_cases hlt : k < l.length
    · obtain ⟨x, hx⟩ : ∃ x, l[k]? = some x := ⟨l[k], List.getElem?_eq_getElem hlt⟩
      obtain ⟨ad, rfl, hc0⟩ := HR.out k (.int .i64 x) (by rw [List.getElem?_map, hx]; rfl)
      have hc := cell_keep hbel hc0
      have hcall := HF.out x (List.mem_of_getElem? hx) wo hbel
      have hk1 : (k : Int) < (l.length : Int) := by omega
      have hk0 : (0 : Int) ≤ (k : Int) := by omega
      rw [any_drop p l k x hx] at hB
      clear hc0 hx
      have HC := Lib.hid hcall
      clear hcall
      cases hp : p x with
      | true =>
        have HB := Lib.hid (show B = true by rw [hB, hp]; rfl)
        have HC := Lib.hid (by have := HC.out; rw [hp] at this; exact this)
        clear hB hp
        go_wp2_with (go_at_fn g; refine (HC.out).mono ?_; rintro e w1 ⟨rfl, hb1⟩)
        go_ret
        exact ⟨k, rfl, by rw [HB.out]; simp, Below.next hbel hb1⟩
      | false =>
        have HB := Lib.hid (show B = (l.drop (k + 1)).any p by rw [hB, hp]; rfl)
        have HC := Lib.hid (by have := HC.out; rw [hp] at this; exact this)
        clear hB hp
        go_wp2_with (go_at_fn g; refine (HC.out).mono ?_; rintro e w1 ⟨rfl, hb1⟩)
        go_roundw
        case rel => exact ⟨k + 1, by omega, by go_num, HB.out, Below.next hbel hb1⟩
        case measure => simp [intOf]; omega
    · have hk' : k = l.length := by omega
      subst hk'
      have HB := Lib.hid (show B = false by rw [hB, List.drop_length]; rfl)
      clear hB
      go_wp2
      go_ret
      exact ⟨-1, rfl, by rw [HB.out]; rfl, hbel⟩

set_option maxHeartbeats 1000000 in
theorem containsFunc_ints (g : Nat) (lb : Array Value) (eg : ∀ args w, (callFunc g args).run Tryz.prog w = .ok (.enter g args) w) (A : Option Addr) (c : Nat) (l : List Int) (p : Int → Bool) (w : World) (hr : Rd w A (l.map (Value.int .i64)))
    (hf : ∀ x ∈ l, FnGives g lb w (.int .i64 x) (p x)) (hlen : l.length ≤ maxLen) :
    Calls Tryz.prog 43 #[.slice A l.length c, .func (.func g) #[] lb] w (Keeps (.bool (l.any p)) w) := by
  have HC := Lib.hid (indexFunc_ints g lb eg A c l p w hr hf hlen)
  clear hr hf
  generalize l.any p = B at HC ⊢
  go_enter Tryz.func43, Tryz.ntmps43
  go_wp2_with (go_at_call 72; refine (HC.out).mono ?_; rintro e w1 ⟨k, rfl, hk, hb1⟩)
  go_ret
  exact ⟨by rw [← hk]; rfl, hb1⟩

set_option maxHeartbeats 1000000 in
theorem indexFunc_lists (g : Nat) (lb : Array Value) (eg : ∀ args w, (callFunc g args).run Tryz.prog w = .ok (.enter g args) w) (A : Option Addr) (c : Nat) (l : List LV) (p : List Int → Bool) (w : World) (hr : Rd w A (lCells l))
    (hf : ∀ x ∈ l, FnGives g lb w x.2 (p x.1)) (hlen : l.length ≤ maxLen) :
    Calls Tryz.prog 74 #[.slice A l.length c, .func (.func g) #[] lb] w (Finds (l.any fun x => p x.1) w) := by
  have hn1 : l.length ≤ 9223372036854775807 := by unfold maxLen at hlen; omega
  clear hlen
  have HF := Lib.hid hf
  have HR := Lib.hid hr
  have HB := Lib.hid (show (l.any fun x => p x.1) = ((l.drop 0).any fun x => p x.1) by rw [List.drop_zero])
  generalize (l.any fun x => p x.1) = B at HB ⊢
  clear hf hr
  go_enter Tryz.func74, Tryz.ntmps74
  go_wp2
  go_loopw [5, 8] (fun _ i wr => ∃ k : Nat, k ≤ l.length ∧ i = .int .i64 k ∧ (B = ((l.drop k).any fun x => p x.1)) ∧ Below w.heap.size w wr) (fun _ i _ => l.length - (intOf i).toNat)
  case atStart => exact ⟨0, Nat.zero_le _, rfl, HB.out, Below.refl _ _⟩
  case round =>
    obtain ⟨k, hk, rfl, hB, hbel⟩ := hrel
    obtain ⟨wo, rfl⟩ : ∃ wo : World, wo = wr := ⟨_, rfl⟩
    by_cases hlt : k < l.length
    · obtain ⟨⟨x, sv⟩, hx⟩ : ∃ x, l[k]? = some x := ⟨l[k], List.getElem?_eq_getElem hlt⟩
      obtain ⟨ad, rfl, hc0⟩ := HR.out k sv (by unfold lCells; rw [List.getElem?_map, hx]; rfl)
      have hc := cell_keep hbel hc0
      have hcall := HF.out _ (List.mem_of_getElem? hx) wo hbel
      have hk1 : (k : Int) < (l.length : Int) := by omega
      have hk0 : (0 : Int) ≤ (k : Int) := by omega
      rw [any_drop _ l k _ hx] at hB
      simp only at hB hcall
      clear hc0 hx
      have HC := Lib.hid hcall
      clear hcall
      cases hp : p x with
      | true =>
        have HB := Lib.hid (show B = true by rw [hB, hp]; rfl)
        have HC := Lib.hid (by have := HC.out; rw [hp] at this; exact this)
        clear hB hp
        go_wp2_with (go_at_fn g; refine (HC.out).mono ?_; rintro e w1 ⟨rfl, hb1⟩)
        go_ret
        exact ⟨k, rfl, by rw [HB.out]; simp, Below.next hbel hb1⟩
      | false =>
        have HB := Lib.hid (show B = ((l.drop (k + 1)).any fun x => p x.1) by rw [hB, hp]; rfl)
        have HC := Lib.hid (by have := HC.out; rw [hp] at this; exact this)
        clear hB hp
        go_wp2_with (go_at_fn g; refine (HC.out).mono ?_; rintro e w1 ⟨rfl, hb1⟩)
        go_roundw
        case rel => exact ⟨k + 1, by omega, by go_num, HB.out, Below.next hbel hb1⟩
        case measure => simp [intOf]; omega
    · have hk' : k = l.length := by omega
      subst hk'
      have HB := Lib.hid (show B = false by rw [hB, List.drop_length]; rfl)
      clear hB
      go_wp2
      go_ret
      exact ⟨-1, rfl, by rw [HB.out]; rfl, hbel⟩

set_option maxHeartbeats 1000000 in
theorem containsFunc_lists (g : Nat) (lb : Array Value) (eg : ∀ args w, (callFunc g args).run Tryz.prog w = .ok (.enter g args) w) (A : Option Addr) (c : Nat) (l : List LV) (p : List Int → Bool) (w : World) (hr : Rd w A (lCells l))
    (hf : ∀ x ∈ l, FnGives g lb w x.2 (p x.1)) (hlen : l.length ≤ maxLen) :
    Calls Tryz.prog 46 #[.slice A l.length c, .func (.func g) #[] lb] w (Keeps (.bool (l.any fun x => p x.1)) w) := by
  have HC := Lib.hid (indexFunc_lists g lb eg A c l p w hr hf hlen)
  clear hr hf
  generalize (l.any fun x => p x.1) = B at HC ⊢
  go_enter Tryz.func46, Tryz.ntmps46
  go_wp2_with (go_at_call 74; refine (HC.out).mono ?_; rintro e w1 ⟨k, rfl, hk, hb1⟩)
  go_ret
  exact ⟨by rw [← hk]; rfl, hb1⟩

theorem eq_drop {l m : List Int} {k : Nat} (h : k < l.length) (h' : k < m.length) : (l.drop k == m.drop k) = (l[k] == m[k] && (l.drop (k + 1) == m.drop (k + 1))) := by
  rw [List.drop_eq_getElem_cons h, List.drop_eq_getElem_cons h']
  rfl
set_option maxHeartbeats 2000000 in
theorem slices_Equal (sa sb : Value) (l m : List Int) (w : World) (ha : IsInts w sa l) (hb : IsInts w sb m) : Calls Tryz.prog 121 #[sa, sb] w (Keeps (.bool (l == m)) w) := by
  obtain ⟨A, c, rfl, hr, h1, h2⟩ := ha
  obtain ⟨D, d, rfl, hs, g1, g2⟩ := hb
  have hn1 : l.length ≤ 9223372036854775807 := by unfold maxLen at h2; omega
  have hn2 : m.length ≤ 9223372036854775807 := by unfold maxLen at g2; omega
  by_cases hlen : l.length = m.length
  · have HB := Lib.hid (show (l == m) = (l.drop 0 == m.drop 0) by rw [List.drop_zero, List.drop_zero])
    have HL := Lib.hid hlen
    have HR := Lib.hid hr
    have HS := Lib.hid hs
    generalize (l == m) = B at HB ⊢
    obtain ⟨n, hn⟩ : ∃ n, n = l.length := ⟨_, rfl⟩
    have hmn : m.length = n := by omega
    rw [← hn] at hn1
    rw [← hn, hmn]
    have HN := Lib.hid hn
    have HM := Lib.hid hmn
    clear hlen hn hmn hr hs h1 h2 g1 g2 hn2
    go_enter Tryz.func121, Tryz.ntmps121
    go_wp2
    go_loopw [5, 13] (fun _ i wr => ∃ (k q : Nat), k ≤ n ∧ i = .int .i64 k ∧ (B = (l.drop k == m.drop k)) ∧ wr = w.drewN q) (fun _ i _ => n - (intOf i).toNat)
    case atStart => exact ⟨0, 0, Nat.zero_le _, rfl, HB.out, rfl⟩
    case round =>
      obtain ⟨k, q, hk, rfl, hB, rfl⟩ := hrel
      by_cases hlt : k < n
      · have hl : k < l.length := by have := HN.out; omega
        have hm : k < m.length := by have := HM.out; omega
        obtain ⟨ad, rfl, c1⟩ := HR.out.int hl
        obtain ⟨bd, rfl, c2⟩ := HS.out.int hm
        rw [eq_drop hl hm] at hB
        have hk1 : (k : Int) < (n : Int) := by omega
        have hk0 : (0 : Int) ≤ (k : Int) := by omega
        generalize l[k] = x at c1 hB
        generalize m[k] = y at c2 hB
        by_cases hxy : x = y
        · subst hxy
          have HB := Lib.hid (show B = (l.drop (k + 1) == m.drop (k + 1)) by rw [hB]; simp)
          clear hB hl hm
          go_wp2_with fail
          go_region
          go_wp2
          go_roundw
          case rel => exact ⟨k + 1, q + 1, by omega, by go_num, HB.out, rfl⟩
          case measure => simp [intOf]; omega
        · have HB := Lib.hid (show B = false by rw [hB, beq_eq_false_iff_ne.2 hxy]; rfl)
          clear hB hl hm
          go_wp2_with fail
          go_region
          go_wp2
          go_ret
          exact ⟨by rw [HB.out]; rfl, below_drewN (Below.refl _ _) _⟩
      · have hk' : k = n := by omega
        subst hk'
        have HB := Lib.hid (show B = true by rw [hB, List.drop_eq_nil_of_le (by have := HN.out; omega), List.drop_eq_nil_of_le (by have := HM.out; omega)]; rfl)
        clear hB
        go_wp2
        go_ret
        exact ⟨by rw [HB.out]; rfl, below_drewN (Below.refl _ _) _⟩
  · have HB := Lib.hid (show (l == m) = false by rw [beq_eq_false_iff_ne]; intro e; exact hlen (by rw [e]))
    generalize (l == m) = B at HB ⊢
    have hne : (l.length : Int) ≠ (m.length : Int) := by omega
    clear hr hs h1 h2 g1 g2
    go_enter Tryz.func121, Tryz.ntmps121
    go_wp2
    go_ret
    exact ⟨by rw [HB.out]; rfl, by (repeat' (first | (with_reducible exact Below.refl _ _) | (with_reducible assumption) | (with_reducible refine Below.next ?_ (by with_reducible assumption)) | (with_reducible refine Below.drew ?_) | (with_reducible refine Below.laid ?_ _) | (with_reducible refine Below.setCell ?_ ?_ _) | (with_reducible refine size_of ?_) | (with_reducible refine Nat.le_succ_of_le ?_) | go_size))⟩
end Go.Proofs.YtlpfbdejiifbpaaGreatDoor

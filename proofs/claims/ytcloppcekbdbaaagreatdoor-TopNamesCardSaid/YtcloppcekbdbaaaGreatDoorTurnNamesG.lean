/-
  THE WALK of turn.signs: signs with other names.
  THE WALKS of slices.Collect, slices.Sorted at integers, and of turn.once.
  THE WALK of turn.Names: a formula with other names.
-/
import Derived.Test.YtcloppcekbdbaaaGreatDoorOwnG
import Derived.Test.YtcloppcekbdbaaaGreatDoorVennRenG
import Derived.Test.YtcloppcekbdbaaaGreatDoorSeq
import Derived.Test.YtcloppcekbdbaaaGreatDoorSortL
import Derived.Test.YtcloppcekbdbaaaGreatDoorSpanG
import Derived.Lib.SlKeysI
import Derived.Test.YtcloppcekbdbaaaGreatDoorNegate
namespace Go.Proofs.YtcloppcekbdbaaaGreatDoor
open Go.RowKit

def SignsPost (t : List Int) (w : World) (e : Ending) (w' : World) : Prop := ∃ v', e = .returned v' ∧ Below w.heap.size w w' ∧ w'.ownsRow w.heap.size 3 1 v' t.length (t.map (Value.int .i64))
set_option maxHeartbeats 2000000 in
set_option maxRecDepth 100000 in
theorem turn_signs (v : Value) (t : List Int) (a b c : Int) (w : World) (h : IsInts w v t) (hl : t.length ≤ 1000) (hp : ∀ s ∈ t, 0 ≤ s) :
    Calls Tryz.prog 93 #[v, .agg #[.int .i64 a, .int .i64 b, .int .i64 c]] w (SignsPost (Venn.renT a b c t) w) := by
  obtain ⟨A, cA, rfl, h'⟩ := h
  have HI := Lib.hid (show IsInts w (.slice A t.length cA) t from ⟨A, cA, rfl, h'⟩)
  have HP := Lib.hid hp
  have HLN := Lib.hid (Venn.renT_len a b c t)
  clear h' hp
  go_enter Tryz.func93, Tryz.ntmps93
  go_wp2_with fail
  have BP := Blk.new w 43 #[.int .i64 a, .int .i64 b, .int .i64 c]
  have hw1 : Below w.heap.size w (w.alloc (.cells #[.int .i64 a, .int .i64 b, .int .i64 c] 43)) := by (repeat' (first | (with_reducible exact Below.refl _ _) | (with_reducible assumption) | (with_reducible refine Below.next ?_ (by with_reducible assumption)) | (with_reducible refine Below.drew ?_) | (with_reducible refine Below.laid ?_ _) | (with_reducible refine Below.setCell ?_ ?_ _) | (with_reducible refine size_of ?_) | (with_reducible refine Nat.le_succ_of_le ?_) | go_size))
  refine (clone_ints _ t _ (HI.out.keep (by (repeat' (first | (with_reducible exact Below.refl _ _) | (with_reducible assumption) | (with_reducible refine Below.next ?_ (by with_reducible assumption)) | (with_reducible refine Below.drew ?_) | (with_reducible refine Below.laid ?_ _) | (with_reducible refine Below.setCell ?_ ?_ _) | (with_reducible refine size_of ?_) | (with_reducible refine Nat.le_succ_of_le ?_) | go_size)))) (by omega)).mono ?_
  rintro e w2 ⟨v', rfl, hb2, hown2⟩
  obtain ⟨VA, vc, rfl⟩ := ownsRow_slice hown2
  replace BP := BP.keep hb2
  have hw2 := Below.next hw1 hb2
  have hown := own_base hown2 (show w.heap.size + 1 ≤ _ by simp)
  have HOWN := Lib.hid hown
  have HBP := Lib.hid BP
  clear hw1 hb2 hown2 hown BP
  go_wp2
  go_loopw [12] (fun i wr => ∃ k : Nat, k ≤ t.length ∧ i = .int .i64 k ∧ Below w.heap.size w wr ∧ Blk wr w.heap.size 43 #[.int .i64 a, .int .i64 b, .int .i64 c] ∧ wr.ownsRow (w.heap.size + 1) 3 1 (.slice VA t.length vc) t.length ((Venn.renT a b c (t.take k) ++ t.drop k).map (Value.int .i64))) (fun i _ => t.length - (intOf i).toNat)
  case atStart => exact ⟨0, Nat.zero_le _, rfl, hw2, HBP.out, by simpa [Venn.renT] using HOWN.out⟩
  case round =>
    obtain ⟨k, hk, rfl, hb, BP, hown⟩ := hrel
    obtain ⟨wo, rfl⟩ : ∃ wo : World, wo = wr := ⟨_, rfl⟩
    by_cases hlt : k < t.length
    · have HS := Lib.hid (Venn.renT_step a b c t k hlt)
      have HD := Lib.hid (List.drop_eq_getElem_cons hlt)
      have hsl : (Venn.renT a b c (t.take k)).length = k := by simp [Venn.renT]; omega
      have hs0 := HP.out t[k] (List.getElem_mem hlt)
      generalize t[k] = s at HS HD hs0
      obtain ⟨g, cap, hv, hg1, hg2⟩ := hown.form (by omega)
      simp only [Value.slice.injEq] at hv
      obtain ⟨rfl, _, rfl⟩ := hv
      have hk1 : (k : Int) < (t.length : Int) := by omega
      have hk0 : (0 : Int) ≤ (k : Int) := by omega
      have hfz := hown.frozenAt k
      have hcl := hown.cellAt k (by simp; omega)
      rw [HD.out] at hown hcl
      have hcs : wo.cell? ⟨g, k, none⟩ = some (.int .i64 s) := by
        rw [hcl]
        simp [hsl]
      have HNX : ∀ z : Int, Venn.renS a b c s = z → ((Venn.renT a b c (t.take k) ++ s :: t.drop (k + 1)).map (Value.int .i64)).set k (.int .i64 z) = (Venn.renT a b c (t.take (k + 1)) ++ t.drop (k + 1)).map (Value.int .i64) := by
        intro z hz
        rw [HS.out, hz]
        rw [List.map_append, List.set_append_right _ _ (by simp [hsl])]
        simp [hsl]
      have HN := Lib.hid HNX
      have HST := Lib.hid (fun z => hown.stored k (.int .i64 z))
      have HOW := Lib.hid hown
      have HBP := Lib.hid BP
      have hng : ¬ w.heap.size = g := by omega
      obtain ⟨c0, c1, c2⟩ := (show wo.cell? ⟨w.heap.size, 0, none⟩ = some (.int .i64 a) ∧ wo.cell? ⟨w.heap.size, 1, none⟩ = some (.int .i64 b) ∧ wo.cell? ⟨w.heap.size, 2, none⟩ = some (.int .i64 c) from ⟨BP.cell 0, BP.cell 1, BP.cell 2⟩)
      clear HNX hcl hown BP
      rcases (by omega : s = 0 ∨ s = 1 ∨ s = 2 ∨ ¬ s < 3) with rfl | rfl | rfl | h3
      · have HE := Lib.hid (HN.out a rfl)
        go_wp2
        go_roundw
        case rel => exact ⟨k + 1, by omega, by go_num, hb.setCell (p := ⟨g, k, none⟩) (by show w.heap.size ≤ g; omega) _, HBP.out.far (p := ⟨g, k, none⟩) hng _, by rw [← HE.out]; exact (HST.out a).1⟩
        case measure => simp [intOf]; omega
      · have HE := Lib.hid (HN.out b rfl)
        go_wp2
        go_roundw
        case rel => exact ⟨k + 1, by omega, by go_num, hb.setCell (p := ⟨g, k, none⟩) (by show w.heap.size ≤ g; omega) _, HBP.out.far (p := ⟨g, k, none⟩) hng _, by rw [← HE.out]; exact (HST.out b).1⟩
        case measure => simp [intOf]; omega
      · have HE := Lib.hid (HN.out c rfl)
        go_wp2
        go_roundw
        case rel => exact ⟨k + 1, by omega, by go_num, hb.setCell (p := ⟨g, k, none⟩) (by show w.heap.size ≤ g; omega) _, HBP.out.far (p := ⟨g, k, none⟩) hng _, by rw [← HE.out]; exact (HST.out c).1⟩
        case measure => simp [intOf]; omega
      · have HE := Lib.hid (show (Venn.renT a b c (t.take k) ++ s :: t.drop (k + 1)) = Venn.renT a b c (t.take (k + 1)) ++ t.drop (k + 1) by rw [HS.out, Venn.renS, if_neg (by omega), if_neg (by omega), if_neg (by omega)]; simp)
        go_wp2
        go_roundw
        case rel => exact ⟨k + 1, by omega, by go_num, hb, HBP.out, by rw [← HE.out]; exact HOW.out⟩
        case measure => simp [intOf]; omega
    · have hkt : k = t.length := by omega
      subst hkt
      rw [List.take_length, List.drop_eq_nil_of_le (Nat.le_refl _), List.append_nil] at hown
      have HO := Lib.hid (own_base hown (show w.heap.size ≤ _ by omega))
      clear hown
      go_wp2
      go_ret
      exact ⟨_, rfl, hb, by rw [HLN.out]; exact HO.out⟩
end Go.Proofs.YtcloppcekbdbaaaGreatDoor

namespace Go.Proofs.YtcloppcekbdbaaaGreatDoor
open Go.RowKit Go.Shelf Go.Sort

def CollectPost (zs : List Int) (w : World) (e : Ending) (w' : World) : Prop := ∃ v, e = .returned v ∧ w'.ownsRow w.heap.size 3 1 v zs.length (zs.map (Value.int .i64)) ∧ Below w.heap.size w w'
set_option maxHeartbeats 1000000 in
theorem slices_Collect (b : Nat) (A : Option Addr) (c : Nat) (zs : List Int) (hlen : zs.length ≤ 1000) (w : World) (hb : w.cell? ⟨b, 0, none⟩ = some (.slice A zs.length c)) (hr : Rd w A (zs.map (Value.int .i64))) :
    Calls Tryz.prog 164 #[valuesV b] w (CollectPost zs w) := by
  have hcon := (callsIn_wide (n := 5)).1 (appendSeq_in 5 (by decide) b A c zs hlen w hb (fun j x hj => hr j _ (by rw [List.getElem?_map, hj]; rfl)))
  have HC := Lib.hid hcon
  clear hcon hb hr
  go_enter Tryz.func164, Tryz.ntmps164
  go_wp2_with fail
  refine HC.out.mono ?_
  rintro e w1 ⟨v, rfl, hown, hb⟩
  obtain ⟨OA, oc, rfl⟩ := ownsRow_slice hown
  go_wp2
  go_ret
  exact ⟨_, rfl, hown, hb⟩
theorem sort_ints (g cap : Nat) (zs : List Int) (w : World) (hH : Holds (Value.int .i64) w g 0 zs.toArray) (hblk : g < w.heap.size) (hsz : zs.length ≤ 1000) :
    Calls Tryz.prog 165 #[.slice (some ⟨g, 0, none⟩) zs.length cap] w fun e w' => e = .returned (.tuple #[]) ∧ ∃ n os, w' = grow (putRow (Value.int .i64) (Sort.ahead w n) g 0 (Venn.sortI zs).toArray) os :=
  AnyM.slices_Sort_int sortL g 0 cap zs w hH hblk (by omega)
theorem sort_none (p : Option Addr) (cap : Nat) (w : World) : Calls Tryz.prog 165 #[.slice p 0 cap] w fun e w' => e = .returned (.tuple #[]) ∧ w' = w :=
  AnyM.slices_Sort_int_none sortL p cap w
set_option maxHeartbeats 1000000 in
theorem slices_Sorted (b : Nat) (A : Option Addr) (c : Nat) (zs : List Int) (hlen : zs.length ≤ 1000) (w : World) (hb : w.cell? ⟨b, 0, none⟩ = some (.slice A zs.length c)) (hr : Rd w A (zs.map (Value.int .i64))) :
    Calls Tryz.prog 133 #[valuesV b] w (CollectPost (Venn.sortI zs) w) := by
  have HC := Lib.hid (slices_Collect b A c zs hlen w hb hr)
  clear hb hr
  have hsl := Venn.sortI_len zs
  have HSL := Lib.hid hsl
  clear hsl
  by_cases h0 : zs.length = 0
  · have hz : zs = [] := List.eq_nil_of_length_eq_zero h0
    subst hz
    go_enter Tryz.func133, Tryz.ntmps133
    go_wp2_with fail
    refine HC.out.mono ?_
    rintro e w1 ⟨v, rfl, hown, hb⟩
    obtain ⟨OA, oc, rfl⟩ := ownsRow_slice hown
    go_wp2_with fail
    refine (sort_none _ _ _).mono ?_
    rintro e w2 ⟨rfl, rfl⟩
    go_wp2
    go_ret
    exact ⟨_, rfl, by simpa [Venn.sortI] using hown, hb⟩
  · go_enter Tryz.func133, Tryz.ntmps133
    go_wp2_with fail
    refine HC.out.mono ?_
    rintro e w1 ⟨v, rfl, hown, hb⟩
    obtain ⟨g, cap, cur, rfl, hg, hB, r1, r2, r3, r4⟩ := own_cons hown (by omega)
    have hH : Holds (Value.int .i64) w1 g 0 zs.toArray := holds_of_block_i hB (by simpa using r4)
    have hgl := hB.lt
    go_wp2_with fail
    refine (sort_ints g cap zs _ hH hgl hlen).mono ?_
    rintro e w2 ⟨rfl, nn, os, rfl⟩
    have hown2 := ownsRow_sorted_i (os := os) (n := nn) (ts := Venn.sortI zs) HSL.out hg hB r1 r2 r3
    have hb2 := hb.grown (grownBy_sorted_i (w := w1) (g := g) (n := nn) (os := os) (Venn.sortI zs).toArray) hb.size (fun j hj => by cases hj; exact hg)
    revert hown2 hb2
    change World.ownsRow (grow (putRow (Value.int .i64) _ _ _ _) _) _ _ _ _ _ _ → Below _ _ (grow (putRow (Value.int .i64) _ _ _ _) _) → _
    generalize grow (putRow (Value.int .i64) _ _ _ _) _ = w3
    intro hown2 hb2
    go_wp2
    go_ret
    exact ⟨_, rfl, by rw [HSL.out]; exact hown2, hb2⟩

theorem upFrom_cons (k : Int) (x : Int) (r : List Int) : Venn.upFrom k (x :: r) = (x == k && Venn.upFrom (k + 1) r) := rfl
set_option maxHeartbeats 2000000 in
theorem turn_once (v : Value) (l : List Int) (w : World) (hl : IsInts w v l) (hn : l.length ≤ 1000) : Calls Tryz.prog 92 #[v] w (Keeps (.bool (Venn.onceV l)) w) := by
  obtain ⟨A, c, rfl, hr, h1, h2⟩ := hl
  have HR := Lib.hid hr
  have HV := Lib.hid (show Venn.onceV l = Venn.upFrom 0 (Venn.sortI l) from rfl)
  have HSL := Lib.hid (Venn.sortI_len l)
  generalize Venn.onceV l = B at HV ⊢
  clear hr
  go_enter Tryz.func92, Tryz.ntmps92
  go_wp2_with fail
  refine (slices_Values _ _ _ _).mono ?_
  rintro e w1 ⟨rfl, rfl⟩
  have hb0 : Below w.heap.size w (w.alloc (.cells #[.slice A l.length c] 30)) := by (repeat' (first | (with_reducible exact Below.refl _ _) | (with_reducible assumption) | (with_reducible refine Below.next ?_ (by with_reducible assumption)) | (with_reducible refine Below.drew ?_) | (with_reducible refine Below.laid ?_ _) | (with_reducible refine Below.setCell ?_ ?_ _) | (with_reducible refine size_of ?_) | (with_reducible refine Nat.le_succ_of_le ?_) | go_size))
  have B0 := (Blk.new w 30 #[.slice A l.length c]).cell 0
  go_wp2_with fail
  refine (slices_Sorted w.heap.size A c l hn _ B0 (HR.out.keep hb0)).mono ?_
  rintro e w2 ⟨v2, rfl, hown2, hb2⟩
  have hw2 := hb0.trans (hb2.mono (by simp))
  have hI := IsInts.of_own hown2
  obtain ⟨A2, c2, rfl, hr2, _, _⟩ := hI
  have HR2 := Lib.hid hr2
  have hn2 : (Venn.sortI l).length ≤ 1000 := by rw [HSL.out]; exact hn
  clear hown2 hr2 B0 hb0 hb2 HSL h1 h2 HR
  generalize Venn.sortI l = ss at HV HR2 hn2
  go_wp2
  go_loop [11] (fun i => ∃ k : Nat, k ≤ ss.length ∧ i = .int .i64 k ∧ B = Venn.upFrom k (ss.drop k)) (fun i => ss.length - (intOf i).toNat)
  case atStart => exact ⟨0, Nat.zero_le _, rfl, HV.out⟩
  case round =>
    obtain ⟨k, hk, rfl, hB⟩ := hrel
    by_cases hlt : k < ss.length
    · obtain ⟨x, hx⟩ : ∃ x, ss[k]? = some x := ⟨ss[k], List.getElem?_eq_getElem hlt⟩
      obtain ⟨ad, rfl, hc⟩ := HR2.out k (.int .i64 x) (by rw [List.getElem?_map, hx]; rfl)
      have hd : ss.drop k = x :: ss.drop (k + 1) := by
        rw [List.drop_eq_getElem_cons hlt]
        rw [List.getElem?_eq_getElem hlt] at hx
        cases hx
        rfl
      rw [hd, upFrom_cons] at hB
      have hk1 : (k : Int) < (ss.length : Int) := by omega
      by_cases hxe : x = (k : Int)
      · subst hxe
        have HB := Lib.hid (show B = Venn.upFrom ((k + 1 : Nat) : Int) (ss.drop (k + 1)) by rw [hB]; simp)
        clear hB hd hx
        go_wp2
        go_round
        case rel => exact ⟨k + 1, by omega, by go_num, HB.out⟩
        case measure => simp [intOf]; omega
      · have hne : ((k : Int) == x) = false := beq_eq_false_iff_ne.2 (fun h => hxe h.symm)
        have HB := Lib.hid (show B = false by rw [hB, beq_eq_false_iff_ne.2 hxe]; rfl)
        clear hB hd hx hxe
        go_wp2
        go_ret
        exact ⟨by rw [HB.out]; rfl, hw2⟩
    · have hk' : k = ss.length := by omega
      subst hk'
      have HB := Lib.hid (show B = true by rw [hB, List.drop_length]; rfl)
      clear hB
      go_wp2
      go_ret
      exact ⟨by rw [HB.out]; rfl, hw2⟩
end Go.Proofs.YtcloppcekbdbaaaGreatDoor

namespace Go.Proofs.YtcloppcekbdbaaaGreatDoor
open Go.RowKit

theorem rd_of_blkN {w : World} {g : Nat} {t : TypeId} {cur : Array Value} {n : Nat} {xs : List Value} (h : Blk w g t cur) (ht : cur.toList.take n = xs) : Rd w (some ⟨g, 0, none⟩) xs := by
  intro j u hj
  refine ⟨_, rfl, ?_⟩
  have hadd : (⟨g, 0, none⟩ : Addr).add j = ⟨g, j, none⟩ := by unfold Addr.add; split <;> simp_all
  rw [hadd, h.cell]
  rw [← ht, List.getElem?_take] at hj
  split at hj
  · simpa using hj
  · cases hj

/-- The loop's state: k atoms have other names. -/
structure NamAt (w wr : World) (n0 n1 n2 : Int) (p p1 : List AV) (va vc : Value) (ga ka gc : Nat) (qc cur : Array Value) (k : Nat) : Prop where
  below : Below w.heap.size w wr
  box : Blk wr w.heap.size 38 #[va, vc]
  pbox : Blk wr (w.heap.size + 1) 43 #[.int .i64 n0, .int .i64 n1, .int .i64 n2]
  res : Blk wr (w.heap.size + 2) 38 #[.slice none 0 0, .slice none 0 0]
  row : Blk wr ga 32 cur
  size : cur.size = ka * 4
  cells : cur.toList.take (p.length * 4) = aCells (p1 ++ p.drop k)
  done : p1.map (fun x : AV => x.1) = (p.take k).map (fun x : AV => Venn.renA n0 n1 n2 x.1)
  ok : AOk wr p1
  src : AOk wr p
  far : ∀ x ∈ p1, ∀ b, (x.2.1.ownBlock = some b ∨ x.2.2.ownBlock = some b) → b ≠ ga ∧ w.heap.size + 2 < b
  sfar : ∀ x ∈ p, ∀ b, (x.2.1.ownBlock = some b ∨ x.2.2.ownBlock = some b) → b ≠ ga
  code : Blk wr gc 3 qc
  lo : w.heap.size + 2 < ga
  ne : ga < gc
theorem NamAt.len {w wr : World} {n0 n1 n2 : Int} {p p1 : List AV} {va vc : Value} {ga ka gc : Nat} {qc cur : Array Value} {k : Nat} (h : NamAt w wr n0 n1 n2 p p1 va vc ga ka gc qc cur k) (hk : k ≤ p.length) : p1.length = k := by
  have := congrArg List.length h.done
  simp only [List.length_map, List.length_take] at this
  omega
theorem aCells_setW : ∀ (p1 : List AV) (x : AV) (rest : List AV) (y : Venn.Atom) (sv tv : Value), y.what = x.1.what → y.n = x.1.n → ((aCells (p1 ++ x :: rest)).set (p1.length * 4 + 1) sv).set (p1.length * 4 + 2) tv = aCells (p1 ++ (y, sv, tv) :: rest) := by
  intro p1
  induction p1 with
  | nil => intro x rest y sv tv h1 h2; simp [aCells, h1, h2]
  | cons z p1 ih =>
    intro x rest y sv tv h1 h2
    rw [List.length_cons, Nat.succ_mul, show p1.length * 4 + 4 + 1 = p1.length * 4 + 1 + 4 by omega, show p1.length * 4 + 4 + 2 = p1.length * 4 + 2 + 4 by omega]
    simp only [List.cons_append, aCells, List.set_cons_succ]
    rw [ih x rest y sv tv h1 h2]
theorem NamAt.step {w wr w2 : World} {n0 n1 n2 : Int} {p p1 : List AV} {va vc : Value} {ga ka gc : Nat} {qc cur : Array Value} {k : Nat} (h : NamAt w wr n0 n1 n2 p p1 va vc ga ka gc qc cur k) {x : AV} (hx : p[k]? = some x) (hb : Below wr.heap.size wr w2)
    {sv tv : Value} (hs : IsInts w2 sv (Venn.renT n0 n1 n2 x.1.s)) (ht : IsInts w2 tv (Venn.renT n0 n1 n2 x.1.t)) (hsb : ∀ b, sv.ownBlock = some b → wr.heap.size ≤ b) (htb : ∀ b, tv.ownBlock = some b → wr.heap.size ≤ b) :
    NamAt w ((w2.setCell ⟨ga, k * 4 + 1, none⟩ sv).setCell ⟨ga, k * 4 + 2, none⟩ tv) n0 n1 n2 p (p1 ++ [(Venn.renA n0 n1 n2 x.1, sv, tv)]) va vc ga ka gc qc ((cur.setIfInBounds (k * 4 + 1) sv).setIfInBounds (k * 4 + 2) tv) (k + 1) := by
  have hk := (List.getElem?_eq_some_iff.1 hx).1
  have hxe := (List.getElem?_eq_some_iff.1 hx).2
  have hgl := h.row.lt
  have hcl := h.code.lt
  have hlen := h.len (by omega)
  have hbut : But (fun b => b = ga) w2 ((w2.setCell ⟨ga, k * 4 + 1, none⟩ sv).setCell ⟨ga, k * 4 + 2, none⟩ tv) :=
    ((But.refl (fun b => b = ga) w2).set_ (p := ⟨ga, k * 4 + 1, none⟩) rfl sv).set_ (p := ⟨ga, k * 4 + 2, none⟩) rfl tv
  have hlo := h.lo
  have hne := h.ne
  refine ⟨?_, ?_, ?_, ?_, ?_, ?_, ?_, ?_, ?_, ?_, ?_, h.sfar, ?_, hlo, hne⟩
  · exact ((Below.next h.below hb).setCell (by show w.heap.size ≤ ga; omega) _).setCell (by show w.heap.size ≤ ga; omega) _
  · exact (h.box.keep hb).but hbut (by omega)
  · exact (h.pbox.keep hb).but hbut (by omega)
  · exact (h.res.keep hb).but hbut (by omega)
  · exact ((h.row.keep hb).set_ _ _).set_ _ _
  · simpa using h.size
  · have e := h.cells
    rw [List.drop_eq_getElem_cons hk, hxe] at e
    rw [Array.toList_setIfInBounds, Array.toList_setIfInBounds, List.take_set, List.take_set, e, ← hlen, aCells_setW p1 x _ (Venn.renA n0 n1 n2 x.1) sv tv rfl rfl, hlen]
    simp
  · rw [List.map_append, h.done, List.take_succ_eq_append_getElem hk, List.map_append, hxe]
    rfl
  · intro y hy
    rcases List.mem_append.1 hy with hy | hy
    · have hf := h.far y hy
      exact ⟨((h.ok y hy).1.keep hb).but hbut fun b e => (hf b (.inl e)).1, ((h.ok y hy).2.keep hb).but hbut fun b e => (hf b (.inr e)).1⟩
    · rw [List.mem_singleton.1 hy]
      exact ⟨hs.but hbut fun b e => by have := hsb b e; omega, ht.but hbut fun b e => by have := htb b e; omega⟩
  · exact (h.src.keep hb).but hbut h.sfar
  · intro y hy b e
    rcases List.mem_append.1 hy with hy | hy
    · exact h.far y hy b e
    · rw [List.mem_singleton.1 hy] at e
      rcases e with e | e
      · have := hsb b e; exact ⟨by omega, by omega⟩
      · have := htb b e; exact ⟨by omega, by omega⟩
  · exact (h.code.keep hb).but hbut (by omega)
theorem NamAt.cur {w wr : World} {n0 n1 n2 : Int} {p p1 : List AV} {va vc : Value} {ga ka gc : Nat} {qc cur : Array Value} {k : Nat} (h : NamAt w wr n0 n1 n2 p p1 va vc ga ka gc qc cur k) {x : AV} (hx : p[k]? = some x) :
    cur[k * 4]? = some (.int .i64 x.1.what) ∧ cur[k * 4 + 1]? = some x.2.1 ∧ cur[k * 4 + 2]? = some x.2.2 ∧ cur[k * 4 + 3]? = some (.int .i64 x.1.n) := by
  have hk := (List.getElem?_eq_some_iff.1 hx).1
  have hxe := (List.getElem?_eq_some_iff.1 hx).2
  have hlen := h.len (by omega)
  have hat : (p1 ++ p.drop k)[k]? = some x := by
    rw [List.drop_eq_getElem_cons hk, hxe, ← hlen]
    simp
  have key : ∀ i, i < p.length * 4 → cur[i]? = (aCells (p1 ++ p.drop k))[i]? := fun i hi => by
    rw [← h.cells, List.getElem?_take, if_pos hi]
    simp
  obtain ⟨c0, c1, c2, c3⟩ := aCells_at _ _ _ hat
  exact ⟨(key _ (by omega)).trans c0, (key _ (by omega)).trans c1, (key _ (by omega)).trans c2, (key _ (by omega)).trans c3⟩
theorem held_names {W : World} {f q x : Nat} {tF tP tA : TypeId} {va vc a0 a3 sv tv c0 c1 c2 : Value} (hB : Blk W f tF #[va, vc]) (hP : Blk W q tP #[c0, c1, c2]) (hX : Blk W x tA #[a0, sv, tv, a3]) :
    W.cell? ⟨f, 0, none⟩ = some va ∧ W.cell? ⟨q, 0, none⟩ = some c0 ∧ W.cell? ⟨q, 1, none⟩ = some c1 ∧ W.cell? ⟨q, 2, none⟩ = some c2 ∧ W.cell? ⟨x, 1, none⟩ = some sv ∧ W.cell? ⟨x, 2, none⟩ = some tv := ⟨hB.cell 0, hP.cell 0, hP.cell 1, hP.cell 2, hX.cell 1, hX.cell 2⟩
/-- What the loop leaves: a formula with other names. -/
theorem NamAt.post {w wr w2 : World} {n0 n1 n2 : Int} {p p1 : List AV} {c : List Int} {ga ka gc kc : Nat} {qc cur : Array Value} (h : NamAt w wr n0 n1 n2 p p1 (.slice (some ⟨ga, 0, none⟩) p.length ka) (.slice (some ⟨gc, 0, none⟩) c.length kc) ga ka gc qc cur p.length)
    (hb : But (fun b => b = w.heap.size + 2) wr w2) (h1 : p.length ≤ ka) (h2 : ka ≤ maxLen) (h3 : c.length ≤ kc) (h4 : kc ≤ maxLen) (h6 : qc.toList.take (c.length * 1) = c.map (Value.int .i64)) :
    IsAtoms w2 (.slice (some ⟨ga, 0, none⟩) p.length ka) ((p.map (fun x : AV => x.1)).map (Venn.renA n0 n1 n2)) ∧ IsInts w2 (.slice (some ⟨gc, 0, none⟩) c.length kc) c := by
  have hd := h.done
  rw [List.take_length] at hd
  have hlen := h.len (Nat.le_refl _)
  have hlo := h.lo
  have hne := h.ne
  have e := h.cells
  rw [List.drop_length, List.append_nil] at e
  have hrow := h.row.but hb (show ¬ ga = w.heap.size + 2 by omega)
  have hcode := h.code.but hb (show ¬ gc = w.heap.size + 2 by omega)
  have hok : AOk w2 p1 := h.ok.but hb fun x hx b e => by have := (h.far x hx b e).2; omega
  have hr : Rd w2 (some ⟨ga, 0, none⟩) (aCells p1) := rd_of_blkN hrow e
  have hA := atoms_close hr hok (c := ka) (by omega) h2
  rw [hd, hlen] at hA
  exact ⟨by rw [List.map_map]; exact hA, ⟨_, _, rfl, rd_of_blkN hcode h6, h3, h4⟩⟩
theorem form_signs {l : List Venn.Atom} {c : List Int} (h : Venn.formChk ⟨l, c⟩ = 0) : ∀ a ∈ l, (∀ s ∈ a.s, 0 ≤ s) ∧ ∀ s ∈ a.t, 0 ≤ s := by
  obtain ⟨_, _, _, _, h5, _, _⟩ := Venn.formChk_parts h
  have ht : ∀ {t : List Int}, Venn.termChk t = 0 → ∀ s ∈ t, 0 ≤ s := fun {t} h s hs => ((Venn.termChk_parts h).2.2.1 s hs).1
  intro a ha
  obtain ⟨_, _, hs, ht1, ht2, _⟩ := Venn.atomChk_parts (Venn.atomsChk_mem h5 a ha)
  refine ⟨ht hs, ?_⟩
  cases hT : Venn.hasT a.what
  · rw [ht2 hT]; intro s hs; cases hs
  · exact ht (ht1 hT)

theorem IsInts.of_blk3 {w : World} {g : Nat} {t : TypeId} {x y z : Int} (h : Blk w g t #[.int .i64 x, .int .i64 y, .int .i64 z]) : IsInts w (.slice (some ⟨g, 0, none⟩) 3 3) [x, y, z] := by
  refine ⟨_, _, rfl, fun j u hj => ?_, Nat.le_refl _, by simp [maxLen]⟩
  refine ⟨_, rfl, ?_⟩
  match j, hj with
  | 0, hj => simp at hj; subst hj; exact h.cell 0
  | 1, hj => simp at hj; subst hj; exact h.cell 1
  | 2, hj => simp at hj; subst hj; exact h.cell 2
def NamesPost (f : Venn.Form) (n0 n1 n2 : Int) : World → Ending → World → Prop := FormPost (Venn.namesV f n0 n1 n2) (Venn.namesErr f n0 n1 n2)
set_option maxHeartbeats 4000000 in
set_option maxRecDepth 100000 in
theorem turn_Names (sa sc : Value) (l : List Venn.Atom) (c : List Int) (n0 n1 n2 : Int) (w : World) (ha : IsAtoms w sa l) (hc : IsInts w sc c) (hk : KindsOk w) :
    Calls Tryz.prog 44 #[.agg #[sa, sc], .agg #[.int .i64 n0, .int .i64 n1, .int .i64 n2]] w (NamesPost ⟨l, c⟩ n0 n1 n2 w) := by
  obtain ⟨A, cA, rfl⟩ := ha.slice
  obtain ⟨C, cC, rfl⟩ := hc.slice
  have HA := Lib.hid ha
  have HC := Lib.hid hc
  have HK := Lib.hid hk
  clear ha hc hk
  unfold NamesPost
  by_cases h1 : ¬ Venn.formChk ⟨l, c⟩ = 0
  · have hn : Venn.namesErr ⟨l, c⟩ n0 n1 n2 = Venn.formChk ⟨l, c⟩ := if_neg h1
    have HX := Lib.hid (errV_ne h1)
    have HV := Lib.hid (show Venn.namesV ⟨l, c⟩ n0 n1 n2 = noForm by rw [Venn.namesV, if_neg (by rw [hn]; exact h1)]; rfl)
    rw [hn, HV.out]
    clear h1 hn
    go_enter Tryz.func44, Tryz.ntmps44
    go_wp2_with fail
    refine (form_Check _ _ l c _ (HA.out.keep (by (repeat' (first | (with_reducible exact Below.refl _ _) | (with_reducible assumption) | (with_reducible refine Below.next ?_ (by with_reducible assumption)) | (with_reducible refine Below.drew ?_) | (with_reducible refine Below.laid ?_ _) | (with_reducible refine Below.setCell ?_ ?_ _) | (with_reducible refine size_of ?_) | (with_reducible refine Nat.le_succ_of_le ?_) | go_size)))) (HC.out.keep (by (repeat' (first | (with_reducible exact Below.refl _ _) | (with_reducible assumption) | (with_reducible refine Below.next ?_ (by with_reducible assumption)) | (with_reducible refine Below.drew ?_) | (with_reducible refine Below.laid ?_ _) | (with_reducible refine Below.setCell ?_ ?_ _) | (with_reducible refine size_of ?_) | (with_reducible refine Nat.le_succ_of_le ?_) | go_size)))) (HK.out.keep (by (repeat' (first | (with_reducible exact Below.refl _ _) | (with_reducible assumption) | (with_reducible refine Below.next ?_ (by with_reducible assumption)) | (with_reducible refine Below.drew ?_) | (with_reducible refine Below.laid ?_ _) | (with_reducible refine Below.setCell ?_ ?_ _) | (with_reducible refine size_of ?_) | (with_reducible refine Nat.le_succ_of_le ?_) | go_size))))).mono ?_
    rintro e w1 ⟨rfl, hb1⟩
    rw [HX.out]
    have hq1 : Below w.heap.size w w1 := by (repeat' (first | (with_reducible exact Below.refl _ _) | (with_reducible assumption) | (with_reducible refine Below.next ?_ (by with_reducible assumption)) | (with_reducible refine Below.drew ?_) | (with_reducible refine Below.laid ?_ _) | (with_reducible refine Below.setCell ?_ ?_ _) | (with_reducible refine size_of ?_) | (with_reducible refine Nat.le_succ_of_le ?_) | go_size))
    have hw1 : Below w.heap.size w w1 := hq1
    have BR := (Blk.newAt (w := (w.alloc (.cells #[.slice A l.length cA, .slice C c.length cC] 38)).alloc (.cells #[.int .i64 n0, .int .i64 n1, .int .i64 n2] 43)) (g := w.heap.size + 1 + 1) (by simp) 38 #[.slice none 0 0, .slice none 0 0]).keep hb1
    obtain ⟨⟨r0, r1⟩, s0, s1⟩ := BR.cells2
    have GL := below_set2 hw1 (show w.heap.size ≤ w.heap.size + 1 + 1 by omega) (.slice none 0 0) (.slice none 0 0)
    have GS := BR.set2 (.slice none 0 0) (.slice none 0 0)
    go_wp2
    clear r0 r1 s0 s1
    revert GL GS
    generalize World.setCell _ _ _ = Wf
    intro GL GS
    obtain ⟨⟨e0, e1⟩, _⟩ := GS.cells2
    refine bodyPost_ret (v := .tuple #[.agg #[.slice none 0 0, .slice none 0 0], .iface 92 (.int .i64 (Venn.formChk ⟨l, c⟩))]) (by simp [results, Tryz.results44, go_sem, e0, e1]) rfl ?_
    rw [← HX.out]
    exact FormPost.none GL
  replace h1 := Decidable.not_not.1 h1
  have HX := Lib.hid (errV_zero h1)
  have HON := Lib.hid (fun W v h => turn_once v [n0, n1, n2] W h (by simp))
  by_cases ho : ¬ Venn.onceV [n0, n1, n2] = true
  · have hn : Venn.namesErr ⟨l, c⟩ n0 n1 n2 = 1 := by rw [Venn.namesErr, if_pos h1, if_neg ho]
    have HV := Lib.hid (show Venn.namesV ⟨l, c⟩ n0 n1 n2 = noForm by rw [Venn.namesV, if_neg (by rw [hn]; decide)]; rfl)
    have HB := Lib.hid (show Venn.onceV [n0, n1, n2] = false by simpa using ho)
    rw [hn, HV.out]
    clear h1 hn ho
    go_enter Tryz.func44, Tryz.ntmps44
    go_wp2_with fail
    refine (form_Check _ _ l c _ (HA.out.keep (by (repeat' (first | (with_reducible exact Below.refl _ _) | (with_reducible assumption) | (with_reducible refine Below.next ?_ (by with_reducible assumption)) | (with_reducible refine Below.drew ?_) | (with_reducible refine Below.laid ?_ _) | (with_reducible refine Below.setCell ?_ ?_ _) | (with_reducible refine size_of ?_) | (with_reducible refine Nat.le_succ_of_le ?_) | go_size)))) (HC.out.keep (by (repeat' (first | (with_reducible exact Below.refl _ _) | (with_reducible assumption) | (with_reducible refine Below.next ?_ (by with_reducible assumption)) | (with_reducible refine Below.drew ?_) | (with_reducible refine Below.laid ?_ _) | (with_reducible refine Below.setCell ?_ ?_ _) | (with_reducible refine size_of ?_) | (with_reducible refine Nat.le_succ_of_le ?_) | go_size)))) (HK.out.keep (by (repeat' (first | (with_reducible exact Below.refl _ _) | (with_reducible assumption) | (with_reducible refine Below.next ?_ (by with_reducible assumption)) | (with_reducible refine Below.drew ?_) | (with_reducible refine Below.laid ?_ _) | (with_reducible refine Below.setCell ?_ ?_ _) | (with_reducible refine size_of ?_) | (with_reducible refine Nat.le_succ_of_le ?_) | go_size))))).mono ?_
    rintro e w1 ⟨rfl, hb1⟩
    rw [HX.out]
    have hq1 : Below w.heap.size w w1 := by (repeat' (first | (with_reducible exact Below.refl _ _) | (with_reducible assumption) | (with_reducible refine Below.next ?_ (by with_reducible assumption)) | (with_reducible refine Below.drew ?_) | (with_reducible refine Below.laid ?_ _) | (with_reducible refine Below.setCell ?_ ?_ _) | (with_reducible refine size_of ?_) | (with_reducible refine Nat.le_succ_of_le ?_) | go_size))
    have hw1 : Below w.heap.size w w1 := hq1
    have BP := ((Blk.newAt (w := w.alloc (.cells #[.slice A l.length cA, .slice C c.length cC] 38)) (g := w.heap.size + 1) (by simp) 43 #[.int .i64 n0, .int .i64 n1, .int .i64 n2]).alloc (.cells #[.slice none 0 0, .slice none 0 0] 38)).keep hb1
    have BR := (Blk.newAt (w := (w.alloc (.cells #[.slice A l.length cA, .slice C c.length cC] 38)).alloc (.cells #[.int .i64 n0, .int .i64 n1, .int .i64 n2] 43)) (g := w.heap.size + 1 + 1) (by simp) 38 #[.slice none 0 0, .slice none 0 0]).keep hb1
    go_wp2_with fail
    refine (HON.out _ _ (IsInts.of_blk3 BP)).mono ?_
    rintro e w2 ⟨rfl, hb2⟩
    rw [HB.out]
    replace BR := BR.keep hb2
    have hw2 := Below.next hw1 hb2
    obtain ⟨⟨r0, r1⟩, s0, s1⟩ := BR.cells2
    have GL := below_set2 hw2 (show w.heap.size ≤ w.heap.size + 1 + 1 by omega) (.slice none 0 0) (.slice none 0 0)
    have GS := BR.set2 (.slice none 0 0) (.slice none 0 0)
    go_wp2
    clear r0 r1 s0 s1
    revert GL GS
    generalize World.setCell _ _ _ = Wf
    intro GL GS
    obtain ⟨⟨e0, e1⟩, _⟩ := GS.cells2
    refine bodyPost_ret (v := .tuple #[.agg #[.slice none 0 0, .slice none 0 0], .iface 92 (.int .i64 1)]) (by simp [results, Tryz.results44, go_sem, e0, e1]) rfl ?_
    exact FormPost.none GL
  replace ho := Decidable.not_not.1 ho
  have hn : Venn.namesErr ⟨l, c⟩ n0 n1 n2 = 0 := by rw [Venn.namesErr, if_pos h1, if_pos ho]
  have HV := Lib.hid (show Venn.namesV ⟨l, c⟩ n0 n1 n2 = Venn.renF n0 n1 n2 ⟨l, c⟩ by rw [Venn.namesV, if_pos hn])
  have HB := Lib.hid ho
  have HFO := Lib.hid (fun W h2 h3 => form_Own (.slice A l.length cA) (.slice C c.length cC) l c W h2 h3 h1)
  obtain ⟨⟨hl0, hl6⟩, ⟨hc0, hc20⟩, hst⟩ := form_small h1
  have HST := Lib.hid hst
  have HSG := Lib.hid (form_signs h1)
  rw [hn, HV.out]
  clear h1 hn ho hst
  go_enter Tryz.func44, Tryz.ntmps44
  go_wp2_with fail
  refine (form_Check _ _ l c _ (HA.out.keep (by (repeat' (first | (with_reducible exact Below.refl _ _) | (with_reducible assumption) | (with_reducible refine Below.next ?_ (by with_reducible assumption)) | (with_reducible refine Below.drew ?_) | (with_reducible refine Below.laid ?_ _) | (with_reducible refine Below.setCell ?_ ?_ _) | (with_reducible refine size_of ?_) | (with_reducible refine Nat.le_succ_of_le ?_) | go_size)))) (HC.out.keep (by (repeat' (first | (with_reducible exact Below.refl _ _) | (with_reducible assumption) | (with_reducible refine Below.next ?_ (by with_reducible assumption)) | (with_reducible refine Below.drew ?_) | (with_reducible refine Below.laid ?_ _) | (with_reducible refine Below.setCell ?_ ?_ _) | (with_reducible refine size_of ?_) | (with_reducible refine Nat.le_succ_of_le ?_) | go_size)))) (HK.out.keep (by (repeat' (first | (with_reducible exact Below.refl _ _) | (with_reducible assumption) | (with_reducible refine Below.next ?_ (by with_reducible assumption)) | (with_reducible refine Below.drew ?_) | (with_reducible refine Below.laid ?_ _) | (with_reducible refine Below.setCell ?_ ?_ _) | (with_reducible refine size_of ?_) | (with_reducible refine Nat.le_succ_of_le ?_) | go_size))))).mono ?_
  rintro e w1 ⟨rfl, hb1⟩
  rw [HX.out]
  have hq1 : Below w.heap.size w w1 := by (repeat' (first | (with_reducible exact Below.refl _ _) | (with_reducible assumption) | (with_reducible refine Below.next ?_ (by with_reducible assumption)) | (with_reducible refine Below.drew ?_) | (with_reducible refine Below.laid ?_ _) | (with_reducible refine Below.setCell ?_ ?_ _) | (with_reducible refine size_of ?_) | (with_reducible refine Nat.le_succ_of_le ?_) | go_size))
  have hw1 : Below w.heap.size w w1 := hq1
  have BF := (((Blk.new w 38 #[.slice A l.length cA, .slice C c.length cC]).alloc (.cells #[.int .i64 n0, .int .i64 n1, .int .i64 n2] 43)).alloc (.cells #[.slice none 0 0, .slice none 0 0] 38)).keep hb1
  have BP := ((Blk.newAt (w := w.alloc (.cells #[.slice A l.length cA, .slice C c.length cC] 38)) (g := w.heap.size + 1) (by simp) 43 #[.int .i64 n0, .int .i64 n1, .int .i64 n2]).alloc (.cells #[.slice none 0 0, .slice none 0 0] 38)).keep hb1
  have BR := (Blk.newAt (w := (w.alloc (.cells #[.slice A l.length cA, .slice C c.length cC] 38)).alloc (.cells #[.int .i64 n0, .int .i64 n1, .int .i64 n2] 43)) (g := w.heap.size + 1 + 1) (by simp) 38 #[.slice none 0 0, .slice none 0 0]).keep hb1
  go_wp2_with fail
  refine (HON.out _ _ (IsInts.of_blk3 BP)).mono ?_
  rintro e w2 ⟨rfl, hb2⟩
  rw [HB.out]
  have hw2 := Below.next hw1 hb2
  replace BF := BF.keep hb2
  replace BP := BP.keep hb2
  replace BR := BR.keep hb2
  obtain ⟨⟨b0, b1⟩, _⟩ := BF.cells2
  clear hb1 hq1 hb2
  go_wp2_with fail
  refine (HFO.out _ (HA.out.keep (by (repeat' (first | (with_reducible exact Below.refl _ _) | (with_reducible assumption) | (with_reducible refine Below.next ?_ (by with_reducible assumption)) | (with_reducible refine Below.drew ?_) | (with_reducible refine Below.laid ?_ _) | (with_reducible refine Below.setCell ?_ ?_ _) | (with_reducible refine size_of ?_) | (with_reducible refine Nat.le_succ_of_le ?_) | go_size)))) (HC.out.keep (by (repeat' (first | (with_reducible exact Below.refl _ _) | (with_reducible assumption) | (with_reducible refine Below.next ?_ (by with_reducible assumption)) | (with_reducible refine Below.drew ?_) | (with_reducible refine Below.laid ?_ _) | (with_reducible refine Below.setCell ?_ ?_ _) | (with_reducible refine size_of ?_) | (with_reducible refine Nat.le_succ_of_le ?_) | go_size))))).mono ?_
  rintro e w3 ⟨p, ga, ka, gc, kc, rfl, hb3, hpl, hO3⟩
  have hw3 := Below.next hw2 hb3
  have hplen : p.length = l.length := by rw [← hpl]; simp
  subst hpl
  rw [List.length_map] at *
  have hp0 : 0 < p.length := by omega
  have hp6 : p.length ≤ 6 := by omega
  have hsz := BR.lt
  obtain ⟨ga', ka', cur, eA, hgA, BA, a1, a2, a3, a4⟩ := own_cons hO3.aRow hp0
  cases eA
  obtain ⟨gc', kc', qc, eC, hgC, BC, d1, d2, d3, d4⟩ := own_cons hO3.cRow hc0
  cases eC
  have hI0 : NamAt w ((w3.setCell ⟨w.heap.size, 0, none⟩ (.slice (some ⟨ga, 0, none⟩) p.length ka)).setCell ⟨w.heap.size, 1, none⟩ (.slice (some ⟨gc, 0, none⟩) c.length kc)) n0 n1 n2 p [] (.slice (some ⟨ga, 0, none⟩) p.length ka) (.slice (some ⟨gc, 0, none⟩) c.length kc) ga ka gc qc cur 0 := by
    have hbut : But (fun b => b = w.heap.size) w3 ((w3.setCell ⟨w.heap.size, 0, none⟩ (.slice (some ⟨ga, 0, none⟩) p.length ka)).setCell ⟨w.heap.size, 1, none⟩ (.slice (some ⟨gc, 0, none⟩) c.length kc)) :=
      ((But.refl (fun b => b = w.heap.size) w3).set_ (p := ⟨w.heap.size, 0, none⟩) rfl _).set_ (p := ⟨w.heap.size, 1, none⟩) rfl _
    refine ⟨below_set2 hw3 (Nat.le_refl _) _ _, (BF.keep hb3).set2 _ _, (BP.keep hb3).but hbut (by omega), (BR.keep hb3).but hbut (by omega), BA.but hbut (by omega), a3, by rw [a4]; rfl, rfl, (fun x hx => by cases hx), hO3.ok.but hbut (fun x hx b e => ?_), (fun x hx => by cases hx), (fun x hx b e => ?_), BC.but hbut (by omega), by omega, hO3.ne _ _ rfl rfl⟩
    · have := (hO3.far x hx b e).1
      omega
    · have := (hO3.far x hx b e).2.1
      intro e2
      exact this (by rw [e2]; rfl)
  have HI0 := Lib.hid hI0
  have HD := Lib.hid (And.intro (And.intro a1 a2) (And.intro (And.intro d1 d2) d4))
  obtain ⟨⟨b0, b1⟩, f0, f1⟩ := (BF.keep hb3).cells2
  clear hI0 BA BC BF BP BR hO3 a1 a2 a3 a4 d1 d2 d3 d4 hgA hgC hplen hw1 hw2
  go_wp2_with fail
  clear b0 b1 f0 f1 hw3 hb3 hsz
  revert HI0
  generalize World.setCell _ _ _ = w4
  intro HI0
  go_loopw [25] (fun i wr => ∃ (k : Nat) (p1 : List AV) (cur : Array Value), k ≤ p.length ∧ i = .int .i64 k ∧ NamAt w wr n0 n1 n2 p p1 (.slice (some ⟨ga, 0, none⟩) p.length ka) (.slice (some ⟨gc, 0, none⟩) c.length kc) ga ka gc qc cur k)
    (fun i _ => p.length - (intOf i).toNat)
  case atStart => exact ⟨0, [], cur, Nat.zero_le _, rfl, HI0.out⟩
  case round =>
    clear HI0
    obtain ⟨k, p1, cur, hk, rfl, hAt⟩ := hrel
    obtain ⟨wo, rfl⟩ : ∃ wo : World, wo = wr := ⟨_, rfl⟩
    have HAT := Lib.hid hAt
    obtain ⟨⟨b0, b1⟩, _⟩ := hAt.box.cells2
    have BB := hAt.box
    have BP := hAt.pbox
    have BW := hAt.row
    have hblw := hAt.below
    have hlo := hAt.lo
    have hbl := BB.lt
    have hwl := BW.lt
    have hpl := BP.lt
    by_cases hlt : k < p.length
    · obtain ⟨⟨⟨aw, aS, aT, an⟩, sv, tv⟩, hx⟩ : ∃ x : AV, p[k]? = some x := ⟨p[k], List.getElem?_eq_getElem hlt⟩
      have hmem : (⟨aw, aS, aT, an⟩ : Venn.Atom) ∈ p.map (fun x : AV => x.1) := List.mem_map.2 ⟨_, List.mem_of_getElem? hx, rfl⟩
      obtain ⟨hs, ht⟩ := hAt.src _ (List.mem_of_getElem? hx)
      obtain ⟨hs12, ht12⟩ := HST.out ⟨aw, aS, aT, an⟩ hmem
      obtain ⟨gs0, gt0⟩ := HSG.out ⟨aw, aS, aT, an⟩ hmem
      have HS0 := Lib.hid gs0
      have HT0 := Lib.hid gt0
      simp only at hs ht
      obtain ⟨sA, sN, rfl, hs'⟩ := hs
      obtain ⟨tA, tN, rfl, ht'⟩ := ht
      have HSS := Lib.hid (show IsInts wo (.slice sA aS.length sN) aS from ⟨sA, sN, rfl, hs'⟩)
      have HTT := Lib.hid (show IsInts wo (.slice tA aT.length tN) aT from ⟨tA, tN, rfl, ht'⟩)
      obtain ⟨q0, q1, q2, q3⟩ := HAT.out.cur hx
      simp only at q0 q1 q2 q3 hs12 ht12
      have r0 := (BW.cell (k * 4)).trans q0
      have r1 := (BW.cell (k * 4 + 1)).trans q1
      have r2 := (BW.cell (k * 4 + 2)).trans q2
      have r3 := (BW.cell (k * 4 + 3)).trans q3
      have HQ := Lib.hid (And.intro q1 q2)
      have HX := Lib.hid hx
      have hk1 : (k : Int) < (p.length : Int) := by omega
      have hk0 : (0 : Int) ≤ (k : Int) := by omega
      clear hs' ht' hx q0 q1 q2 q3 gs0 gt0 hmem hAt
      have hn1 : ¬ w.heap.size = ga := by omega
      have hn1' : ¬ w.heap.size + 1 = ga := by omega
      have hn2 : ¬ ga = w.heap.size := by omega
      have hn3 : ¬ wo.heap.size = ga := by omega
      have hn4 : ¬ ga = wo.heap.size := by omega
      have hn5 : ¬ k * 4 + 2 = k * 4 + 1 := by omega
      go_wp2_with fail
      have BX := Blk.new wo 32 #[.int .i64 aw, .slice sA aS.length sN, .slice tA aT.length tN, .int .i64 an]
      have BB0 := BB.alloc (.cells #[.int .i64 aw, .slice sA aS.length sN, .slice tA aT.length tN, .int .i64 an] 32)
      have BP0 := BP.alloc (.cells #[.int .i64 aw, .slice sA aS.length sN, .slice tA aT.length tN, .int .i64 an] 32)
      have BW0 := BW.alloc (.cells #[.int .i64 aw, .slice sA aS.length sN, .slice tA aT.length tN, .int .i64 an] 32)
      go_region_held3 (fun w' => w'.cell? ⟨w.heap.size, 0, none⟩ = some (.slice (some ⟨ga, 0, none⟩) p.length ka) ∧ w'.cell? ⟨w.heap.size + 1, 0, none⟩ = some (.int .i64 n0) ∧ w'.cell? ⟨w.heap.size + 1, 1, none⟩ = some (.int .i64 n1) ∧ w'.cell? ⟨w.heap.size + 1, 2, none⟩ = some (.int .i64 n2) ∧ w'.cell? ⟨wo.heap.size, 1, none⟩ = some (.slice sA aS.length sN) ∧ w'.cell? ⟨wo.heap.size, 2, none⟩ = some (.slice tA aT.length tN))
        (first | with_reducible exact held_names BB0 BP0 BX | with_reducible exact held_names BB0.drew BP0.drew BX.drew | with_reducible exact held_names BB1 BP1 BX1 | with_reducible exact held_names BB2 BP2 BX2 | exact held_names (BB2.far (p := ⟨ga, k * 4 + 1, none⟩) hn1 _) (BP2.far (p := ⟨ga, k * 4 + 1, none⟩) hn1' _) (BX2.far (p := ⟨ga, k * 4 + 1, none⟩) hn3 _) | exact held_names ((BB2.far (p := ⟨ga, k * 4 + 1, none⟩) hn1 _).far (p := ⟨ga, k * 4 + 2, none⟩) hn1 _) ((BP2.far (p := ⟨ga, k * 4 + 1, none⟩) hn1' _).far (p := ⟨ga, k * 4 + 2, none⟩) hn1' _) ((BX2.far (p := ⟨ga, k * 4 + 1, none⟩) hn3 _).far (p := ⟨ga, k * 4 + 2, none⟩) hn3 _))
        (first
        | (go_at_call 93; revert HOS; intro HOS; refine (turn_signs _ aT n0 n1 n2 _ (HTT.out.keep (by (repeat' (first | (with_reducible exact Below.refl _ _) | (with_reducible assumption) | (with_reducible refine Below.next ?_ (by with_reducible assumption)) | (with_reducible refine Below.drew ?_) | (with_reducible refine Below.laid ?_ _) | (with_reducible refine Below.setCell ?_ ?_ _) | (with_reducible refine size_of ?_) | (with_reducible refine Nat.le_succ_of_le ?_) | go_size)))) (by omega) HT0.out).mono ?_; rintro e w2 ⟨v2, rfl, hb2, hown2⟩; obtain ⟨VA2, vc2, rfl⟩ := ownsRow_slice hown2
           have BB2 := BB1.keep hb2; have BP2 := BP1.keep hb2; have BW2 := BW1.keep hb2; have BX2 := BX1.keep hb2; have HOT := Lib.hid hown2
           obtain ⟨⟨y0, y1⟩, _⟩ := BB2.cells2; have y2 := (BW2.cell (k * 4 + 1)).trans HQ.out.1; have y3 := (BW2.cell (k * 4 + 2)).trans HQ.out.2; have y4 := BW2.frozen (k * 4 + 1); have y5 := BW2.frozen (k * 4 + 2); have y6 := BB2.lt; have y7 := BW2.lt; have y8 := BX2.lt)
        | (go_at_call 93; refine (turn_signs _ aS n0 n1 n2 _ (HSS.out.keep (by (repeat' (first | (with_reducible exact Below.refl _ _) | (with_reducible assumption) | (with_reducible refine Below.next ?_ (by with_reducible assumption)) | (with_reducible refine Below.drew ?_) | (with_reducible refine Below.laid ?_ _) | (with_reducible refine Below.setCell ?_ ?_ _) | (with_reducible refine size_of ?_) | (with_reducible refine Nat.le_succ_of_le ?_) | go_size)))) (by omega) HS0.out).mono ?_; rintro e w1 ⟨v1, rfl, hb1, hown1⟩; obtain ⟨VA1, vc1, rfl⟩ := ownsRow_slice hown1
           have HOS := Lib.hid hown1
           first
           | (have BB1 := BB0.keep hb1; have BP1 := BP0.keep hb1; have BW1 := BW0.keep hb1; have BX1 := BX.keep hb1)
           | (have BB1 := BB0.drew.keep hb1; have BP1 := BP0.drew.keep hb1; have BW1 := BW0.drew.keep hb1; have BX1 := BX.drew.keep hb1)
           have x6 := BB1.lt; have x7 := BW1.lt; have x8 := BX1.lt))
      all_goals
        go_wp2
        go_roundw
        case rel =>
          refine ⟨k + 1, _, _, by omega, by go_num, HAT.out.step HX.out ?_ ?_ ?_ ?_ ?_⟩
          · (repeat' (first | (with_reducible exact Below.refl _ _) | (with_reducible assumption) | (with_reducible refine Below.next ?_ (by with_reducible assumption)) | (with_reducible refine Below.drew ?_) | (with_reducible refine Below.laid ?_ _) | (with_reducible refine Below.setCell ?_ ?_ _) | (with_reducible refine size_of ?_) | (with_reducible refine Nat.le_succ_of_le ?_) | go_size))
          · exact (IsInts.of_own HOS.out).keep hb2
          · exact IsInts.of_own HOT.out
          · intro b e
            have := (HOS.out.lt b e).1
            simp at this
            omega
          · intro b e
            have h1 := (HOT.out.lt b e).1
            have h2 := hb1.size
            simp at h2
            omega
        case measure => simp [intOf]; omega
    · have hk' : k = p.length := by omega
      subst hk'
      have BR := HAT.out.res
      obtain ⟨⟨e0, e1⟩, f0, f1⟩ := BR.cells2
      have hbut : But (fun b => b = w.heap.size + 2) wo ((wo.setCell ⟨w.heap.size + 2, 0, none⟩ (.slice (some ⟨ga, 0, none⟩) p.length ka)).setCell ⟨w.heap.size + 2, 1, none⟩ (.slice (some ⟨gc, 0, none⟩) c.length kc)) :=
        ((But.refl (fun b => b = w.heap.size + 2) wo).set_ (p := ⟨w.heap.size + 2, 0, none⟩) rfl _).set_ (p := ⟨w.heap.size + 2, 1, none⟩) rfl _
      have GL := below_set2 HAT.out.below (show w.heap.size ≤ w.heap.size + 2 by omega) (.slice (some ⟨ga, 0, none⟩) p.length ka) (.slice (some ⟨gc, 0, none⟩) c.length kc)
      have GS := BR.set2 (.slice (some ⟨ga, 0, none⟩) p.length ka) (.slice (some ⟨gc, 0, none⟩) c.length kc)
      have GA := HAT.out.post hbut HD.out.1.1 HD.out.1.2 HD.out.2.1.1 HD.out.2.1.2 HD.out.2.2
      clear hAt hbut
      go_wp2
      clear e0 e1 f0 f1 b0 b1
      revert GL GS GA
      generalize World.setCell _ _ _ = Wf
      intro GL GS GA
      obtain ⟨⟨e0, e1⟩, _⟩ := GS.cells2
      refine bodyPost_ret (v := .tuple #[.agg #[.slice (some ⟨ga, 0, none⟩) p.length ka, .slice (some ⟨gc, 0, none⟩) c.length kc], .nilIface]) (by simp [results, Tryz.results44, go_sem, e0, e1]) rfl ⟨some ⟨ga, 0, none⟩, ka, some ⟨gc, 0, none⟩, kc, ?_, GL, ?_, ?_⟩
      · simp only [Venn.renF, List.length_map]
        rfl
      · simp only [Venn.renF, List.length_map]
        exact GA.1
      · exact GA.2
end Go.Proofs.YtcloppcekbdbaaaGreatDoor

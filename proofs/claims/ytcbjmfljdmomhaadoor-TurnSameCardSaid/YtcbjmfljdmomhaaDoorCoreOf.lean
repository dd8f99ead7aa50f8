/-
  THE WALK of core.Of.
-/
import Derived.Test.YtcbjmfljdmomhaaDoorDelete
import Derived.Test.YtcbjmfljdmomhaaDoorCoreSome
import Derived.Test.YtcbjmfljdmomhaaDoorOwn
import Derived.Maps.AppendAt
namespace Go.Proofs.YtcbjmfljdmomhaaDoor
open Go.RowKit

/-- append(row, y), and where the row lies then. -/
theorem wpList_app1_at {ops : Array Oper} {rest : List Oper} {o : Oper} {a : Act} {Q : Exit → Act → World → Prop} (w : World) (hgd : o.guard = none) (s x : Operand)
    (ho : o.op = .call { callee := .builtin .append, args := #[s, x], argTypes := #[26, 26] })
    (base : Nat) (v : Value) (n : Nat) (xs : List Value) (hs : a.eval s = v) (hown : w.ownsRow base 3 1 v n xs)
    (g c : Nat) (y : Int) (hx : a.eval x = .slice (some ⟨g, 0, none⟩) 1 c) (hy : w.cell? ⟨g, 0, none⟩ = some (.int .i64 y)) (hn : n < 1099511627776) (hbase : base ≤ w.heap.size)
    (h : ∀ v' w', w'.ownsRow base 3 1 v' (n + 1) (xs ++ [.int .i64 y]) → w.grownBy w' v.ownBlock → (v'.ownBlock = v.ownBlock ∨ v'.ownBlock = some w.heap.size) → wpList Tryd.prog ops Q rest (a.put o.dst v') w') : wpList Tryd.prog ops Q (o :: rest) a w := by
  obtain ⟨i0, hi, hz0, hz1, hz2⟩ := info_parts int_info
  refine wpList_append_own_at w hgd s x _ ho base _ i0 _ 1 8 Tryd.underlying26 hi hz0 hz1 hz2 rfl (by decide) v n xs hs hown ⟨g, 0, none⟩ 1 c [.int .i64 y] hx rfl ?_ ?_ (by unfold maxLen; omega) (by omega) hbase (fun v' w' h1 h2 _ h4 => h v' w' h1 h2 h4)
  · intro j u hj
    match j, hj with
    | 0, hj => simp at hj; subst hj; simpa [Addr.add] using hy
  · intro u hu; simp at hu; subst hu; rfl
theorem rd_of_blk {w : World} {g : Nat} {t : TypeId} {cur : Array Value} {n : Nat} {xs : List Value} (h : Blk w g t cur) (ht : cur.toList.take n = xs) : Rd w (some ⟨g, 0, none⟩) xs := by
  intro j u hj
  refine ⟨_, rfl, ?_⟩
  have hadd : (⟨g, 0, none⟩ : Addr).add j = ⟨g, j, none⟩ := by unfold Addr.add; split <;> simp_all
  rw [hadd, h.cell]
  rw [← ht, List.getElem?_take] at hj
  split at hj
  · simpa using hj
  · cases hj
theorem map_erase {α β : Type} (f : α → β) : ∀ (l : List α) (k : Nat), (l.eraseIdx k).map f = (l.map f).eraseIdx k := by
  intro l
  induction l with
  | nil => intro k; rfl
  | cons x l ih => intro k; cases k <;> simp [ih]

theorem delete_forms2 (g cap i : Nat) (J : Int) (p : List FV) (cur : Array Value) (w : World) (hB : Blk w g 31 cur) (hcs : cur.size = cap * 2) (ht : cur.toList.take (p.length * 2) = fCells p) (h1 : ∀ u ∈ fCells p, u.oneCell' = true)
    (hlt : i < p.length) (hJ : J = (i : Int) + 1) (hcap : p.length ≤ cap) (hm : cap ≤ maxLen) :
    Calls Tryd.prog 33 #[.slice (some ⟨g, 0, none⟩) p.length cap, .int .i64 i, .int .i64 J] w (DelPost g cap i p w) := by
  obtain rfl : J = ((i + 1 : Nat) : Int) := by omega
  exact delete_forms g cap i (i + 1) p cur w hB hcs ht h1 hlt rfl hcap hm
/-- The loop's state: what is left, and what was found. -/
structure CoreAt (w wr : World) (p q : List FV) (gl cl : Nat) (o : Value) (out : List Int) : Prop where
  below : Below w.heap.size w wr
  rd : Rd wr (some ⟨gl, 0, none⟩) (fCells q)
  lo : w.heap.size ≤ gl
  lt : gl < wr.heap.size
  sub : ∀ x ∈ q, x ∈ p
  cap : q.length ≤ cl ∧ cl ≤ maxLen
  own : wr.ownsRow w.heap.size 3 1 o out.length (out.map (Value.int .i64))
  ne : o.ownBlock ≠ some gl
def CorePost (ls : List Venn.Form) (u : Int) (w : World) (e : Ending) (w' : World) : Prop :=
  ∃ v, e = .returned (.tuple #[v, errV (Venn.coreErr ls u)]) ∧ Below w.heap.size w w' ∧ IsInts w' v (Venn.coreV ls u)

set_option maxHeartbeats 4000000 in
set_option maxRecDepth 100000 in
theorem core_Of (v : Value) (ls : List Venn.Form) (u : Int) (w : World) (hl : IsForms w v ls) (hk : KindsOk w) : Calls Tryd.prog 9 #[v, .int .i64 u] w (CorePost ls u w) := by
  obtain ⟨L, cL, rfl⟩ := forms_slice hl
  have HL := Lib.hid hl
  have HK := Lib.hid hk
  by_cases h1 : ¬ Venn.coreChk ls u = 0
  · have HX := Lib.hid (errV_ne h1)
    have he : Venn.coreErr ls u = Venn.coreChk ls u := if_neg h1
    have HV := Lib.hid (show Venn.coreV ls u = [] by rw [Venn.coreV, if_neg (by rw [he]; exact h1)])
    have HE := Lib.hid he
    clear h1 he hl hk
    go_enter Tryd.func9, Tryd.ntmps9
    go_wp2_with fail
    refine (core_Check _ ls _ _ (HL.out.keep (by (repeat' (first | (with_reducible exact Below.refl _ _) | (with_reducible assumption) | (with_reducible refine Below.next ?_ (by with_reducible assumption)) | (with_reducible refine Below.drew ?_) | (with_reducible refine Below.laid ?_ _) | (with_reducible refine Below.setCell ?_ ?_ _) | (with_reducible refine size_of ?_) | (with_reducible refine Nat.le_succ_of_le ?_) | go_size)))) (HK.out.keep (by (repeat' (first | (with_reducible exact Below.refl _ _) | (with_reducible assumption) | (with_reducible refine Below.next ?_ (by with_reducible assumption)) | (with_reducible refine Below.drew ?_) | (with_reducible refine Below.laid ?_ _) | (with_reducible refine Below.setCell ?_ ?_ _) | (with_reducible refine size_of ?_) | (with_reducible refine Nat.le_succ_of_le ?_) | go_size))))).mono ?_
    rintro e w1 ⟨rfl, hb1⟩
    rw [HX.out]
    have hq1 : Below w.heap.size w w1 := by (repeat' (first | (with_reducible exact Below.refl _ _) | (with_reducible assumption) | (with_reducible refine Below.next ?_ (by with_reducible assumption)) | (with_reducible refine Below.drew ?_) | (with_reducible refine Below.laid ?_ _) | (with_reducible refine Below.setCell ?_ ?_ _) | (with_reducible refine size_of ?_) | (with_reducible refine Nat.le_succ_of_le ?_) | go_size))
    have hw1 : Below w.heap.size w w1 := hq1
    go_wp2
    go_ret2
    exact ⟨.slice none 0 0, by rw [HE.out, HX.out]; rfl, hw1, by rw [HV.out]; exact IsIntsNil _⟩
  replace h1 := Decidable.not_not.1 h1
  have HX := Lib.hid (errV_zero h1)
  obtain ⟨hl0, hl6, hfc, hu⟩ := Venn.coreChk_parts h1
  have HOK := Lib.hid (Venn.formsChk_mem hfc)
  have HU := Lib.hid hu
  by_cases ho : Venn.openV ls u = true
  · have he : Venn.coreErr ls u = 8 := by rw [Venn.coreErr, if_pos h1, if_pos ho]
    have HV := Lib.hid (show Venn.coreV ls u = [] by rw [Venn.coreV, if_neg (by rw [he]; decide)])
    have HE := Lib.hid he
    have HO := Lib.hid ho
    clear h1 he hl hk ho hl0 hl6 hfc hu
    go_enter Tryd.func9, Tryd.ntmps9
    go_wp2_with fail
    refine (core_Check _ ls _ _ (HL.out.keep (by (repeat' (first | (with_reducible exact Below.refl _ _) | (with_reducible assumption) | (with_reducible refine Below.next ?_ (by with_reducible assumption)) | (with_reducible refine Below.drew ?_) | (with_reducible refine Below.laid ?_ _) | (with_reducible refine Below.setCell ?_ ?_ _) | (with_reducible refine size_of ?_) | (with_reducible refine Nat.le_succ_of_le ?_) | go_size)))) (HK.out.keep (by (repeat' (first | (with_reducible exact Below.refl _ _) | (with_reducible assumption) | (with_reducible refine Below.next ?_ (by with_reducible assumption)) | (with_reducible refine Below.drew ?_) | (with_reducible refine Below.laid ?_ _) | (with_reducible refine Below.setCell ?_ ?_ _) | (with_reducible refine size_of ?_) | (with_reducible refine Nat.le_succ_of_le ?_) | go_size))))).mono ?_
    rintro e w1 ⟨rfl, hb1⟩
    rw [HX.out]
    have hq1 : Below w.heap.size w w1 := by (repeat' (first | (with_reducible exact Below.refl _ _) | (with_reducible assumption) | (with_reducible refine Below.next ?_ (by with_reducible assumption)) | (with_reducible refine Below.drew ?_) | (with_reducible refine Below.laid ?_ _) | (with_reducible refine Below.setCell ?_ ?_ _) | (with_reducible refine size_of ?_) | (with_reducible refine Nat.le_succ_of_le ?_) | go_size))
    have hw1 : Below w.heap.size w w1 := hq1
    go_wp2_with fail
    refine (core_Some _ ls _ _ (HL.out.keep (by (repeat' (first | (with_reducible exact Below.refl _ _) | (with_reducible assumption) | (with_reducible refine Below.next ?_ (by with_reducible assumption)) | (with_reducible refine Below.drew ?_) | (with_reducible refine Below.laid ?_ _) | (with_reducible refine Below.setCell ?_ ?_ _) | (with_reducible refine size_of ?_) | (with_reducible refine Nat.le_succ_of_le ?_) | go_size)))) (HK.out.keep (by (repeat' (first | (with_reducible exact Below.refl _ _) | (with_reducible assumption) | (with_reducible refine Below.next ?_ (by with_reducible assumption)) | (with_reducible refine Below.drew ?_) | (with_reducible refine Below.laid ?_ _) | (with_reducible refine Below.setCell ?_ ?_ _) | (with_reducible refine size_of ?_) | (with_reducible refine Nat.le_succ_of_le ?_) | go_size)))) HOK.out HU.out).mono ?_
    rintro e w2 ⟨rfl, hb2⟩
    rw [HO.out]
    have hq2 : Below w1.heap.size w1 w2 := by (repeat' (first | (with_reducible exact Below.refl _ _) | (with_reducible assumption) | (with_reducible refine Below.next ?_ (by with_reducible assumption)) | (with_reducible refine Below.drew ?_) | (with_reducible refine Below.laid ?_ _) | (with_reducible refine Below.setCell ?_ ?_ _) | (with_reducible refine size_of ?_) | (with_reducible refine Nat.le_succ_of_le ?_) | go_size))
    have hw2 : Below w.heap.size w w2 := Below.next hw1 hq2
    go_wp2
    go_ret2
    exact ⟨.slice none 0 0, by rw [HE.out]; rfl, hw2, by rw [HV.out]; exact IsIntsNil _⟩
  have he : Venn.coreErr ls u = 0 := by rw [Venn.coreErr, if_pos h1, if_neg ho]
  have HV := Lib.hid (show Venn.coreV ls u = (Venn.coreGo ls u ls.length).2 by rw [Venn.coreV, if_pos he])
  have HE := Lib.hid he
  have HO := Lib.hid (show Venn.openV ls u = false by simpa using ho)
  obtain ⟨A, c, p, hv, hpl, hrd, hpo, hpc, hcm⟩ := forms_open hl
  have hplen : p.length = ls.length := by rw [← hpl]; simp
  obtain ⟨ad, rfl⟩ : ∃ ad, A = some ad := by
    obtain ⟨x, hx⟩ : ∃ x, p[0]? = some x := ⟨p[0]'(by omega), List.getElem?_eq_getElem (by omega)⟩
    obtain ⟨ad, e, _⟩ := hrd _ _ (fCells_at p 0 x hx).1
    exact ⟨ad, e⟩
  have hLe : L = some ad := by injection hv
  have hce : cL = c := by injection hv
  subst hLe hce hpl
  rw [List.length_map] at *
  have HR := Lib.hid hrd
  have HP := Lib.hid hpo
  have hp0 : 0 < p.length := by omega
  have hp6 : p.length ≤ 6 := by omega
  clear h1 he hl hk ho hl0 hl6 hfc hu hv hrd hpo hpc hcm
  go_enter Tryd.func9, Tryd.ntmps9
  go_wp2_with fail
  refine (core_Check _ (p.map fun x : FV => x.1) _ _ (HL.out.keep (by (repeat' (first | (with_reducible exact Below.refl _ _) | (with_reducible assumption) | (with_reducible refine Below.next ?_ (by with_reducible assumption)) | (with_reducible refine Below.drew ?_) | (with_reducible refine Below.laid ?_ _) | (with_reducible refine Below.setCell ?_ ?_ _) | (with_reducible refine size_of ?_) | (with_reducible refine Nat.le_succ_of_le ?_) | go_size)))) (HK.out.keep (by (repeat' (first | (with_reducible exact Below.refl _ _) | (with_reducible assumption) | (with_reducible refine Below.next ?_ (by with_reducible assumption)) | (with_reducible refine Below.drew ?_) | (with_reducible refine Below.laid ?_ _) | (with_reducible refine Below.setCell ?_ ?_ _) | (with_reducible refine size_of ?_) | (with_reducible refine Nat.le_succ_of_le ?_) | go_size))))).mono ?_
  rintro e w1 ⟨rfl, hb1⟩
  rw [HX.out]
  have hq1 : Below w.heap.size w w1 := by (repeat' (first | (with_reducible exact Below.refl _ _) | (with_reducible assumption) | (with_reducible refine Below.next ?_ (by with_reducible assumption)) | (with_reducible refine Below.drew ?_) | (with_reducible refine Below.laid ?_ _) | (with_reducible refine Below.setCell ?_ ?_ _) | (with_reducible refine size_of ?_) | (with_reducible refine Nat.le_succ_of_le ?_) | go_size))
  have hw1 : Below w.heap.size w w1 := hq1
  go_wp2_with fail
  refine (core_Some _ (p.map fun x : FV => x.1) _ _ (HL.out.keep (by (repeat' (first | (with_reducible exact Below.refl _ _) | (with_reducible assumption) | (with_reducible refine Below.next ?_ (by with_reducible assumption)) | (with_reducible refine Below.drew ?_) | (with_reducible refine Below.laid ?_ _) | (with_reducible refine Below.setCell ?_ ?_ _) | (with_reducible refine size_of ?_) | (with_reducible refine Nat.le_succ_of_le ?_) | go_size)))) (HK.out.keep (by (repeat' (first | (with_reducible exact Below.refl _ _) | (with_reducible assumption) | (with_reducible refine Below.next ?_ (by with_reducible assumption)) | (with_reducible refine Below.drew ?_) | (with_reducible refine Below.laid ?_ _) | (with_reducible refine Below.setCell ?_ ?_ _) | (with_reducible refine size_of ?_) | (with_reducible refine Nat.le_succ_of_le ?_) | go_size)))) HOK.out HU.out).mono ?_
  rintro e w2 ⟨rfl, hb2⟩
  rw [HO.out]
  have hq2 : Below w1.heap.size w1 w2 := by (repeat' (first | (with_reducible exact Below.refl _ _) | (with_reducible assumption) | (with_reducible refine Below.next ?_ (by with_reducible assumption)) | (with_reducible refine Below.drew ?_) | (with_reducible refine Below.laid ?_ _) | (with_reducible refine Below.setCell ?_ ?_ _) | (with_reducible refine size_of ?_) | (with_reducible refine Nat.le_succ_of_le ?_) | go_size))
  have hw2 : Below w.heap.size w w2 := Below.next hw1 hq2
  go_wp2_with fail
  refine (clone_forms ad cL p _ (HR.out.keep (by (repeat' (first | (with_reducible exact Below.refl _ _) | (with_reducible assumption) | (with_reducible refine Below.next ?_ (by with_reducible assumption)) | (with_reducible refine Below.drew ?_) | (with_reducible refine Below.laid ?_ _) | (with_reducible refine Below.setCell ?_ ?_ _) | (with_reducible refine size_of ?_) | (with_reducible refine Nat.le_succ_of_le ?_) | go_size)))) (HP.out.keep (by (repeat' (first | (with_reducible exact Below.refl _ _) | (with_reducible assumption) | (with_reducible refine Below.next ?_ (by with_reducible assumption)) | (with_reducible refine Below.drew ?_) | (with_reducible refine Below.laid ?_ _) | (with_reducible refine Below.setCell ?_ ?_ _) | (with_reducible refine size_of ?_) | (with_reducible refine Nat.le_succ_of_le ?_) | go_size)))) (by omega)).mono ?_
  rintro e w3 ⟨v3, rfl, hb3, hown3⟩
  obtain ⟨g3, c3, q3, rfl, hg3, B3, h31, h32, h33, h34⟩ := own_cons hown3 hp0
  have hw3 := Below.next hw2 hb3
  have HI : CoreAt w w3 p p g3 c3 (.slice none 0 0) [] := ⟨hw3, rd_of_blk B3 h34, by have := hw2.size; omega, B3.lt, fun x h => h, ⟨h31, h32⟩, World.ownsRow_nil _ _ _ _, by simp [Value.ownBlock]⟩
  have HI0 := Lib.hid HI
  clear HI hown3 B3 h31 h32 h33 h34 hb1 hb2 hb3 hq1 hq2 hw1 hw2 hw3 hg3 hplen
  go_wp2
  go_loopw [7, 8, 26] (fun left o i wr => ∃ (k : Nat) (q : List FV) (gl cl : Nat) (out : List Int), k ≤ p.length ∧ i = .int .i64 k ∧ left = .slice (some ⟨gl, 0, none⟩) q.length cl ∧ q.map (fun x : FV => x.1) = (Venn.coreGo (p.map fun x : FV => x.1) u k).1 ∧ out = (Venn.coreGo (p.map fun x : FV => x.1) u k).2 ∧ CoreAt w wr p q gl cl o out)
    (fun _ _ i _ => p.length - (intOf i).toNat)
  case atStart => exact ⟨0, p, g3, c3, [], Nat.zero_le _, rfl, rfl, rfl, rfl, HI0.out⟩
  case round =>
    obtain ⟨k, q, gl, cl, out, hk, rfl, rfl, hq, hout, hAt⟩ := hrel
    obtain ⟨wo, rfl⟩ : ∃ wo : World, wo = wr := ⟨_, rfl⟩
    obtain ⟨OA, oc, rfl⟩ := ownsRow_slice hAt.own
    have hlen := Venn.coreGo_len (p.map fun x : FV => x.1) u k (by simpa using hk)
    have hsub := Venn.coreGo_sub (p.map fun x : FV => x.1) u k
    have hsucc := Venn.coreGo_succ (p.map fun x : FV => x.1) u k
    rw [← hout, ← hq] at hlen
    rw [← hq] at hsub
    rw [List.length_map, List.length_map] at hlen
    unfold Venn.coreStep at hsucc
    rw [← hout, ← hq, ← map_erase] at hsucc
    have HAT := Lib.hid hAt
    have HSUB := Lib.hid hsub
    have HSU := Lib.hid hsucc
    by_cases hlt : k < p.length
    · have hol : out.length < q.length := by omega
      have hol6 : out.length ≤ 6 := by omega
      have hk1 : (k : Int) < (p.length : Int) := by omega
      have hq6 : q.length ≤ 6 := by omega
      have hok : FOk wo q := fun x hx => ((HP.out.keep hAt.below) x (hAt.sub x hx))
      have HOKQ := Lib.hid hok
      have hrdq := hAt.rd
      have hwo := hAt.below
      have hel : (q.eraseIdx out.length).length = q.length - 1 := by rw [List.length_eraseIdx, if_pos hol]
      have HEL := Lib.hid hel
      have HQ := Lib.hid hq
      have HOUT := Lib.hid hout
      clear hq hout hsub hsucc hlen hel hAt hok hk
      go_wp2_with fail
      refine (clone_forms ⟨gl, 0, none⟩ cl q _ (hrdq.keep (by (repeat' (first | (with_reducible exact Below.refl _ _) | (with_reducible assumption) | (with_reducible refine Below.next ?_ (by with_reducible assumption)) | (with_reducible refine Below.drew ?_) | (with_reducible refine Below.laid ?_ _) | (with_reducible refine Below.setCell ?_ ?_ _) | (with_reducible refine size_of ?_) | (with_reducible refine Nat.le_succ_of_le ?_) | go_size)))) (HOKQ.out.keep (by (repeat' (first | (with_reducible exact Below.refl _ _) | (with_reducible assumption) | (with_reducible refine Below.next ?_ (by with_reducible assumption)) | (with_reducible refine Below.drew ?_) | (with_reducible refine Below.laid ?_ _) | (with_reducible refine Below.setCell ?_ ?_ _) | (with_reducible refine size_of ?_) | (with_reducible refine Nat.le_succ_of_le ?_) | go_size)))) (by omega)).mono ?_
      rintro e w4 ⟨v4, rfl, hb4, hown4⟩
      obtain ⟨g4, c4, q4, rfl, hg4, B4, h41, h42, h43, h44⟩ := own_cons hown4 (by omega)
      go_wp2_with fail
      refine (delete_forms2 g4 c4 out.length _ q q4 _ B4 h43 h44 (fCells_one HOKQ.out) hol rfl h41 h42).mono ?_
      rintro e w5 ⟨rfl, hbut5, q5, B5, h51, h52⟩
      have hb5 : Below wo.heap.size wo w5 := hb4.trans (hbut5.below hb4.size (fun b e => by rw [e]; exact hg4))
      have hmem5 : ∀ x ∈ q.eraseIdx out.length, x ∈ q := fun x hx => List.mem_of_mem_eraseIdx hx
      have hok5 : FOk w5 (q.eraseIdx out.length) := fun x hx => (HOKQ.out.keep hb5) x (hmem5 x hx)
      have hrd5 : Rd w5 (some ⟨g4, 0, none⟩) (fCells (q.eraseIdx out.length)) := rd_of_blk B5 h52
      have hF5 := forms_close hrd5 hok5 (c := c4) (by rw [HEL.out]; omega) h42
      rw [HEL.out] at hF5
      have hlt5 := B5.lt
      have HF5 := Lib.hid hF5
      have HOK5 := Lib.hid (show ∀ f ∈ (q.eraseIdx out.length).map (fun x : FV => x.1), Venn.formChk f = 0 from fun f hf => by
        obtain ⟨x, hx, rfl⟩ := List.mem_map.1 hf
        exact HOK.out _ (HSUB.out _ (List.mem_map.2 ⟨x, hmem5 x hx, rfl⟩)))
      clear hF5 hown4 B4 h43 h44 hbut5 B5 h51 h52
      cases hop : Venn.openV ((q.eraseIdx out.length).map fun x : FV => x.1) u
      · have HOP := Lib.hid hop
        rw [hop] at HSU
        clear hop
        go_wp2_with fail
        refine (core_Some _ _ u _ HF5.out (HK.out.keep (by (repeat' (first | (with_reducible exact Below.refl _ _) | (with_reducible assumption) | (with_reducible refine Below.next ?_ (by with_reducible assumption)) | (with_reducible refine Below.drew ?_) | (with_reducible refine Below.laid ?_ _) | (with_reducible refine Below.setCell ?_ ?_ _) | (with_reducible refine size_of ?_) | (with_reducible refine Nat.le_succ_of_le ?_) | go_size)))) HOK5.out HU.out).mono ?_
        rintro e w6 ⟨rfl, hb6⟩
        rw [HOP.out]
        go_wp2
        go_roundw
        case rel =>
          have hs := HSU.out
          simp only [Bool.false_eq_true, if_false] at hs
          have hb : Below wo.heap.size wo w6 := Below.next hb5 hb6
          have hwl := HAT.out.below.size
          refine ⟨k + 1, q.eraseIdx out.length, g4, c4, out, by omega, by go_num, by rw [HEL.out], by rw [hs], by rw [hs], ⟨Below.next HAT.out.below hb, hrd5.keep hb6, by omega, by have := hb6.size; omega, fun x hx => HAT.out.sub x (hmem5 x hx), ⟨by rw [HEL.out]; omega, h42⟩, own_below HAT.out.own hb, ?_⟩⟩
          intro e
          have := (HAT.out.own.lt g4 e).2
          omega
        case measure => simp [intOf]; omega
      · have HOP := Lib.hid hop
        rw [hop] at HSU
        clear hop
        go_wp2_with fail
        refine (core_Some _ _ u _ HF5.out (HK.out.keep (by (repeat' (first | (with_reducible exact Below.refl _ _) | (with_reducible assumption) | (with_reducible refine Below.next ?_ (by with_reducible assumption)) | (with_reducible refine Below.drew ?_) | (with_reducible refine Below.laid ?_ _) | (with_reducible refine Below.setCell ?_ ?_ _) | (with_reducible refine size_of ?_) | (with_reducible refine Nat.le_succ_of_le ?_) | go_size)))) HOK5.out HU.out).mono ?_
        rintro e w6 ⟨rfl, hb6⟩
        rw [HOP.out]
        have hb : Below wo.heap.size wo w6 := Below.next hb5 hb6
        have hwl := HAT.out.below.size
        have hbs := hb.size
        go_wp2_with (at_builtin; refine wpList_app1_at _ rfl _ _ rfl w.heap.size (.slice OA out.length oc) out.length _ rfl ((own_below HAT.out.own hb).alloc (.cells #[.int .i64 k] 3)) w6.heap.size 1 k rfl ?hy1 (by omega) (by simp; omega) ?_)
        case hy1 => exact (Blk.new w6 3 #[.int .i64 k]).cell 0
        intro v7 w7 hown7 hgr7 hat7
        obtain ⟨g7, c7, q7, rfl, _⟩ := own_cons hown7 (by omega)
        go_wp2
        go_roundw
        case rel =>
          have hs := HSU.out
          simp only [if_true] at hs
          have hob := HAT.out.own.lt
          have hgl := HAT.out.lt
          have hbut7 : But (fun b => (Value.slice OA out.length oc).ownBlock = some b) (w6.alloc (.cells #[.int .i64 k] 3)) w7 := But.of_grown hgr7
          have hsz7 := hbut7.size
          simp at hsz7
          have hbw : Below w.heap.size w w7 := (Below.laid (Below.next HAT.out.below hb) _).trans (hbut7.below (by simp; omega) (fun b e => (hob b e).1))
          refine ⟨k + 1, q, gl, cl, out ++ [(k : Int)], by omega, by go_num, rfl, by rw [hs], by rw [hs], ⟨hbw, ?_, HAT.out.lo, by omega, HAT.out.sub, HAT.out.cap, by simpa using hown7, ?_⟩⟩
          · intro j x hj
            obtain ⟨ad, e, hc⟩ := (HAT.out.rd.keep (Below.laid hb (.cells #[.int .i64 k] 3))) j x hj
            cases e
            refine ⟨_, rfl, cell_but hbut7 hc ?_⟩
            rw [block_of_add]
            exact HAT.out.ne
          · intro e
            rcases hat7 with h | h
            · exact HAT.out.ne (h.symm.trans e)
            · rw [h] at e
              simp at e
              omega
        case measure => simp [intOf]; omega
    · have hk' : k = p.length := by omega
      subst hk'
      have hII := IsInts.of_own HAT.out.own
      have HO2 := Lib.hid hout
      have HB := Lib.hid HAT.out.below
      have HII := Lib.hid hII
      clear hq hout hsub hsucc hlen hAt hII
      go_wp2
      go_ret2
      refine ⟨.slice OA out.length oc, by rw [HE.out]; rfl, HB.out, ?_⟩
      rw [HV.out, ← HO2.out]
      exact HII.out
end Go.Proofs.YtcbjmfljdmomhaaDoor

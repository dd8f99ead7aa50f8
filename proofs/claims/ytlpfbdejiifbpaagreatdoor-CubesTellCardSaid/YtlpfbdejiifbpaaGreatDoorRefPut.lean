/-
  THE WALKS of the reference's put, And, Or.
-/
import Derived.Test.YtlpfbdejiifbpaaGreatDoorRefJoin
import Derived.Test.YtlpfbdejiifbpaaGreatDoorCubes
namespace Go.Proofs.YtlpfbdejiifbpaaGreatDoor
open Go.RowKit

theorem OwnL.rdAt {base : Nat} {w : World} {A : Option Addr} {n c : Nat} {p : List LV} (h : OwnL base w (.slice A n c) p) {k : Nat} {x : LV} (hx : p[k]? = some x) : ∃ ad, A = some ad ∧ w.cell? (ad.add k) = some x.2 :=
  h.rd k x.2 (by unfold lCells; rw [List.getElem?_map, hx]; rfl)
set_option maxHeartbeats 4000000 in
set_option maxRecDepth 100000 in
theorem ref_put (base : Nat) (v : Value) (p : List LV) (y : LV) (w : World) (hown : OwnL base w v p) (hy : IsInts w y.2 y.1) (hf : y.1 ≠ [] → ∀ b, y.2.ownBlock = some b → v.ownBlock ≠ some b) (hn : p.length < 100000) (hbase : base ≤ w.heap.size) :
    Calls Tryz.prog 66 #[v, y.2] w (AddPost base v p y (Venn.putV (lVals p) y.1) w) := by
  obtain ⟨c, yv⟩ := y
  simp only at hy hf ⊢
  obtain ⟨A, k0, rfl⟩ := hown.slice
  have HY := Lib.hid hy
  obtain ⟨B, d, rfl, hrc, hc1, hc2⟩ := hy
  have hcl : c.length ≤ 9223372036854775807 := by unfold maxLen at hc2; omega
  have HRC := Lib.hid hrc
  have HO := Lib.hid hown
  have HF := Lib.hid hf
  have HP := Lib.hid (show Venn.putV (lVals p) c = if (lVals p).contains c = true then lVals p else lVals p ++ [c] from rfl)
  have HC := Lib.hid (show (lVals p).contains c = ((lVals p).drop 0).contains c by rw [List.drop_zero])
  generalize (lVals p).contains c = CC at HP HC
  generalize Venn.putV (lVals p) c = R at HP ⊢
  clear hown hrc hf hc1 hc2
  go_enter Tryz.func66, Tryz.ntmps66
  go_wp2
  go_loopw [5] (fun i wr => ∃ (k q : Nat), k ≤ p.length ∧ i = .int .i64 k ∧ wr = w.drewN q ∧ CC = ((lVals p).drop k).contains c) (fun i _ => p.length - (intOf i).toNat)
  case atStart => exact ⟨0, 0, Nat.zero_le _, rfl, rfl, HC.out⟩
  case round =>
    clear HC
    obtain ⟨k, q, hk, rfl, rfl, hC⟩ := hrel
    by_cases hlt : k < p.length
    · obtain ⟨⟨x, xv⟩, hx⟩ : ∃ x, p[k]? = some x := ⟨p[k], List.getElem?_eq_getElem hlt⟩
      obtain ⟨ad, rfl, hc⟩ := HO.out.rdAt hx
      obtain ⟨X, cX, hxv, hrx, hx1, hx2⟩ := HO.out.ok _ (List.mem_of_getElem? hx)
      rw [lVals_at hx, List.contains_cons] at hC
      simp only at hxv hrx hx1 hC hc
      subst hxv
      have HC := Lib.hid hC
      have HRX := Lib.hid hrx
      have HPK := Lib.hid (show p[k].2 = Value.slice X x.length cX by rw [(List.getElem?_eq_some_iff.1 hx).2])
      have hk1 : (k : Int) < (p.length : Int) := by omega
      have hk0 : (0 : Int) ≤ (k : Int) := by omega
      have hxl : x.length ≤ 9223372036854775807 := by unfold maxLen at hx2; omega
      have HS := Lib.hid (show ((x.length == c.length) && (x.drop 0 == c.drop 0)) = (c == x) by
        rw [List.drop_zero, List.drop_zero]
        by_cases e : c = x
        · subst e; simp
        · rw [beq_eq_false_iff_ne.2 e, beq_eq_false_iff_ne.2 (fun h => e h.symm), Bool.and_false])
      have HSL := Lib.hid (show ((x.length : Int) == (c.length : Int)) = (x.length == c.length) by
        by_cases e : x.length = c.length
        · rw [e]; simp
        · rw [beq_eq_false_iff_ne.2 e, beq_eq_false_iff_ne.2 (by omega)])
      clear hC hx hrx hx1 hx2
      go_upto_region 5 with (fail)
      rw [HSL.out]
      obtain ⟨S0, hS0⟩ : ∃ S0, S0 = (x.length == c.length) := ⟨_, rfl⟩
      rw [← hS0] at HS ⊢
      have HSE := Lib.hid (show S0 = true → x.length = c.length from fun h => by rw [h] at hS0; simpa using hS0.symm)
      clear hS0 HSL hc
      go_wp2
      go_loopw [6, 7] (fun s6 i wr => ∃ (j q2 : Nat) (S : Bool), j ≤ c.length ∧ i = .int .i64 j ∧ s6 = .bool S ∧ wr = w.drewN q2 ∧ (S && (x.drop j == c.drop j)) = (c == x) ∧ (S = true → x.length = c.length)) (fun _ i _ => c.length - (intOf i).toNat)
      case atStart => exact ⟨0, q, S0, Nat.zero_le _, rfl, rfl, rfl, HS.out, HSE.out⟩
      case round =>
        clear HS HSE
        obtain ⟨j, q2, S, hj, rfl, rfl, rfl, hS, hSE⟩ := hrel
        cases S with
        | false =>
          have HNE := Lib.hid (show (c == x) = false by rw [← hS]; rfl)
          have HC2 := Lib.hid (show CC = ((lVals p).drop (k + 1)).contains c by rw [HC.out, HNE.out, Bool.false_or])
          clear hS hSE
          by_cases hlj : j < c.length
          · have hj1 : (j : Int) < (c.length : Int) := by omega
            go_wp2
            go_roundw
            case rel => exact ⟨k + 1, q2, by omega, by go_num, rfl, HC2.out⟩
            case measure => simp [intOf]; omega
          · have hj1 : ¬ (j : Int) < (c.length : Int) := by omega
            go_wp2
            go_roundw
            case rel => exact ⟨k + 1, q2, by omega, by go_num, rfl, HC2.out⟩
            case measure => simp [intOf]; omega
        | true =>
          have hxc := hSE rfl
          by_cases hlj : j < c.length
          · obtain ⟨xd, rfl, hd0⟩ := HRX.out.int (show j < x.length by omega)
            obtain ⟨cd, rfl, hd1⟩ := HRC.out.int hlj
            rw [eq_drop (show j < x.length by omega) hlj, Bool.true_and] at hS
            generalize x[j] = a at hd0 hS
            generalize c[j] = b at hd1 hS
            have HS := Lib.hid hS
            have HSE := Lib.hid hSE
            have hj1 : (j : Int) < (c.length : Int) := by omega
            have hj0 : (0 : Int) ≤ (j : Int) := by omega
            have hj2 : (j : Int) < (x.length : Int) := by omega
            obtain ⟨ad', e', hc⟩ := HO.out.rdAt (List.getElem?_eq_getElem hlt)
            injection e' with e'
            subst e'
            have HXE := Lib.hid hxc
            have hpk : p[k].2 = Value.slice (some xd) x.length cX := HPK.out
            rw [hpk] at hc
            clear hS hSE hxc hpk
            go_wp2_with fail
            go_region
            go_wp2
            go_roundw
            case rel => exact ⟨j + 1, q2 + 1, _, by omega, by go_num, rfl, rfl, HS.out, fun _ => HXE.out⟩
            case measure => simp [intOf]; omega
          · have hj' : j = c.length := by omega
            have HE := Lib.hid (show (c == x) = true by rw [← hS, hj', List.drop_length, ← hxc, List.drop_length]; rfl)
            have HR := Lib.hid (show R = lVals p by rw [HP.out, if_pos (by rw [HC.out, HE.out, Bool.true_or])])
            subst hj'
            clear hS hSE hxc
            go_wp2
            go_ret
            exact ⟨_, p, rfl, HO.out.keep (below_drewN (Below.refl _ _) _), HR.out.symm, fun x hx => .inl hx, But.of_below (below_drewN (Below.refl _ _) _), .inl rfl⟩
    · have hk' : k = p.length := by omega
      have HR := Lib.hid (show R = lVals p ++ [c] by rw [HP.out, hC, hk', List.drop_eq_nil_of_le (by rw [lVals_len]; exact Nat.le_refl _)]; rfl)
      subst hk'
      clear hC
      have hb1 : Below w.heap.size w (w.drewN q) := below_drewN (Below.refl _ _) _
      obtain ⟨w1, hw1⟩ : ∃ w1, w1 = w.drewN q := ⟨_, rfl⟩
      rw [← hw1] at hb1 ⊢
      clear hw1
      have hb2 : Below w1.heap.size w1 (w1.alloc (.cells #[.slice B c.length d] 23)) := by (repeat' (first | (with_reducible exact Below.refl _ _) | (with_reducible assumption) | (with_reducible refine Below.next ?_ (by with_reducible assumption)) | (with_reducible refine Below.drew ?_) | (with_reducible refine Below.laid ?_ _) | (with_reducible refine Below.setCell ?_ ?_ _) | (with_reducible refine size_of ?_) | (with_reducible refine Nat.le_succ_of_le ?_) | go_size))
      have B2 := (Blk.new w1 23 #[.slice B c.length d]).cell 0
      have hq := Below.next hb1 hb2
      go_wp2_with (at_builtin; refine wpList_appL _ rfl _ _ rfl base _ p rfl (HO.out.keep hq) w1.heap.size 1 (c, .slice B c.length d) rfl B2 (HY.out.keep hq) HF.out (by omega) (Nat.le_trans hbase hq.size) ?_)
      intro v' w3 hown3 hg3 hat3
      have hbut : But (fun b => (Value.slice A p.length k0).ownBlock = some b) w w3 := (But.of_below hq).trans (But.of_grown hg3)
      have hs2 := hq.size
      have hs3 : (w1.alloc (.cells #[.slice B c.length d] 23)).heap.size = w1.heap.size + 1 := by simp
      go_wp2
      go_ret
      refine ⟨v', _, rfl, hown3, by rw [lVals_app, HR.out]; rfl, fun x hx => (List.mem_append.1 hx).imp id (fun h => List.mem_singleton.1 h), hbut, ?_⟩
      rcases hat3 with h | h
      · exact .inl h
      · refine .inr fun b e => ?_
        rw [h] at e
        injection e with e
        omega
end Go.Proofs.YtlpfbdejiifbpaaGreatDoor

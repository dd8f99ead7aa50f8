/-
  THE WALKS of the reference's TermText and ReadTerm.
-/
import Derived.Test.YtcloppcekbdbaaaGreatDoorRead
import Derived.Test.YtcloppcekbdbaaaGreatDoorText
import Derived.Deep.QuietTactic
import Derived.BigQuiet
namespace Go.Proofs.YtcloppcekbdbaaaGreatDoor
open Go.RowKit

theorem ownsRow_still {w w' : World} {base : Nat} {e : TypeId} {size : Nat} {v : Value} {n : Nat} {xs : List Value} (h : w.ownsRow base e size v n xs) (hb : Below w.heap.size w w') : w'.ownsRow base e size v n xs := by
  have hg : w.grownBy w' none := ⟨hb.os, hb.tape, hb.output, hb.size, fun k hk _ => hb.block k hk⟩
  by_cases hv : v.ownBlock = none
  · exact h.kept hg (.inl hv)
  · exact h.kept hg (.inr hv)

theorem str_app (S : List UInt8) (b : UInt8) : Value.string (⟨S.toArray⟩ ++ ⟨#[b]⟩) = Value.string ⟨(S ++ [b]).toArray⟩ := by
  congr 1
theorem str_app2 (S : List UInt8) (b : UInt8) (x : ByteArray) (h : x = ⟨#[b]⟩) : Value.string (⟨S.toArray⟩ ++ x) = Value.string ⟨(S ++ [b]).toArray⟩ := by rw [h]; exact str_app S b
set_option maxHeartbeats 2000000 in
set_option maxRecDepth 100000 in
theorem ref_TermText (v : Value) (t : List Int) (w : World) (h : IsInts w v t) (ht : Venn.termChk t = 0) : Calls Tryz.prog 82 #[v] w (Keeps (.string ⟨(textB t).toArray⟩) w) := by
  obtain ⟨A, cp, rfl, hr, hlc, hcm⟩ := h
  obtain ⟨hl0, h12, hsg⟩ := termChk_signs ht
  have HSG := Lib.hid hsg
  have HR := Lib.hid hr
  clear hsg hr ht
  go_enter Tryz.func82, Tryz.ntmps82
  go_wp2
  go_loopw [3, 4] (fun s i wr => ∃ k : Nat, k ≤ t.length ∧ i = .int .i64 k ∧ s = .string ⟨(textB (t.take k)).toArray⟩ ∧ Below w.heap.size w wr) (fun _ i _ => t.length - (intOf i).toNat)
  case atStart => exact ⟨0, Nat.zero_le _, rfl, rfl, by (repeat' (first | (with_reducible exact Below.refl _ _) | (with_reducible assumption) | (with_reducible refine Below.next ?_ (by with_reducible assumption)) | (with_reducible refine Below.drew ?_) | (with_reducible refine Below.laid ?_ _) | (with_reducible refine Below.setCell ?_ ?_ _) | (with_reducible refine size_of ?_) | (with_reducible refine Nat.le_succ_of_le ?_) | go_size))⟩
  case round =>
    obtain ⟨k, hk, rfl, rfl, hb⟩ := hrel
    obtain ⟨wo, rfl⟩ : ∃ wo : World, wo = wr := ⟨_, rfl⟩
    by_cases hlt : k < t.length
    · obtain ⟨ad, rfl, hcell0⟩ := HR.out.int hlt
      have hcell := cell_keep hb hcell0
      have hx := HSG.out _ (List.getElem_mem hlt)
      have HT := Lib.hid (show textB (t.take (k + 1)) = textB (t.take k) ++ [signByte t[k]] by
        rw [textB, List.take_add_one, List.getElem?_eq_getElem hlt, List.map_append]; rfl)
      generalize t[k] = x at hcell hcell0 hx HT
      clear hcell0
      have hSl : (textB (t.take k)).length ≤ 12 := by simp [textB]; omega
      generalize textB (t.take k) = S at HT hSl
      have hadd : ∀ (i j : Nat) (W : World), (Op.stringOp .add ⟨S.toArray⟩ ((⟨#[65, 66, 67, 48, 49, 43, 42, 45, 126]⟩ : ByteArray).extract i j)).run Tryz.prog W = .ok (.string (⟨S.toArray⟩ ++ (⟨#[65, 66, 67, 48, 49, 43, 42, 45, 126]⟩ : ByteArray).extract i j)) W := fun i j W => run_string_add_sum W _ _ (by
        have h1 : (⟨S.toArray⟩ : ByteArray).size = S.length := by show S.toArray.size = _; simp
        have h2 : ((⟨#[65, 66, 67, 48, 49, 43, 42, 45, 126]⟩ : ByteArray).extract i j).size ≤ 9 := by
          rw [ByteArray.size_extract]
          have : (⟨#[65, 66, 67, 48, 49, 43, 42, 45, 126]⟩ : ByteArray).size = 9 := rfl
          omega
        omega)
      have hk1 : (k : Int) < (t.length : Int) := by omega
      have hk0 : (0 : Int) ≤ (k : Int) := by omega
      rcases (by omega : x = 0 ∨ x = 1 ∨ x = 2 ∨ x = 3 ∨ x = 4 ∨ x = 5 ∨ x = 6 ∨ x = 7 ∨ x = 8) with rfl | rfl | rfl | rfl | rfl | rfl | rfl | rfl | rfl
      all_goals
        have hw1 : IntKind.i64.wrap 1 = 1 := by decide
        have hw2 : IntKind.i64.wrap 2 = 2 := by decide
        have hw3 : IntKind.i64.wrap 3 = 3 := by decide
        have hw4 : IntKind.i64.wrap 4 = 4 := by decide
        have hw5 : IntKind.i64.wrap 5 = 5 := by decide
        have hw6 : IntKind.i64.wrap 6 = 6 := by decide
        have hw7 : IntKind.i64.wrap 7 = 7 := by decide
        have hw8 : IntKind.i64.wrap 8 = 8 := by decide
        have hw9 : IntKind.i64.wrap 9 = 9 := by decide
        go_wp2_with fail
        go_quiet (fail)
        go_wp2
        go_roundw
        case rel => exact ⟨k + 1, by omega, by go_num, by rw [HT.out]; exact str_app2 S _ _ rfl, below_drewN hb _⟩
        case measure => simp [intOf]; omega
    · obtain rfl : k = t.length := by omega
      have HL := Lib.hid (show t.take t.length = t from List.take_length)
      go_wp2
      go_ret
      exact ⟨by rw [HL.out]; rfl, hb⟩

/-- The last sign ahead of j that is byte b; below 0: none. -/
def lastTo (b : UInt8) : Nat → Int
  | 0 => -1
  | j + 1 => if ([65, 66, 67, 48, 49, 43, 42, 45, 126] : List UInt8)[j]?.getD 0 = b then (j : Int) else lastTo b j
theorem lastTo_all : ∀ b : Fin 256, lastTo b.val.toUInt8 9 = signOf b.val.toUInt8 := by decide +kernel
theorem lastTo_nine (b : UInt8) : lastTo b 9 = signOf b := by
  have := lastTo_all ⟨b.toNat, b.toNat_lt⟩
  simpa using this
theorem byte_eq (a b : UInt8) : (((a.toNat : Nat) : Int) == ((b.toNat : Nat) : Int)) = decide (a = b) := by
  by_cases h : a = b
  · subst h; simp
  · rw [decide_eq_false h, beq_eq_false_iff_ne]
    intro e
    exact h (UInt8.toNat_inj.1 (by omega))
theorem sign_at : ∀ j : Fin 9, ([65, 66, 67, 48, 49, 43, 42, 45, 126] : List UInt8)[j.val]?.getD 0 = (⟨#[65, 66, 67, 48, 49, 43, 42, 45, 126]⟩ : ByteArray)[j.val]'(j.isLt) := by decide +kernel
theorem lastTo_step (b : UInt8) (j : Nat) (hj : j < 9) : lastTo b (j + 1) = if (((⟨#[65, 66, 67, 48, 49, 43, 42, 45, 126]⟩ : ByteArray)[j]'(hj)).toNat : Int) = ((b.toNat : Nat) : Int) then (j : Int) else lastTo b j := by
  have h1 := sign_at ⟨j, hj⟩
  simp only at h1
  rw [lastTo, h1]
  have := byte_eq ((⟨#[65, 66, 67, 48, 49, 43, 42, 45, 126]⟩ : ByteArray)[j]'(hj)) b
  by_cases h : (⟨#[65, 66, 67, 48, 49, 43, 42, 45, 126]⟩ : ByteArray)[j]'(hj) = b
  · rw [if_pos h, if_pos (by rw [h])]
  · rw [decide_eq_false h, beq_eq_false_iff_ne] at this
    rw [if_neg h, if_neg this]

set_option maxHeartbeats 4000000 in
set_option maxRecDepth 100000 in
theorem ref_ReadTerm (s : ByteArray) (w : World) (hs : s.size < 1099511627776) : Calls Tryz.prog 89 #[.string s] w (ReadPost s w) := by
  go_enter Tryz.func89, Tryz.ntmps89
  go_wp2
  go_loopw [4, 5] (fun v i wr => ∃ (k : Nat) (pre : List Int), k ≤ s.size ∧ i = .int .i64 k ∧ pre.length = k ∧ wr.ownsRow w.heap.size 3 1 v k (pre.map (Value.int .i64)) ∧ Below w.heap.size w wr ∧ readT s.data.toList = (readT (s.data.toList.drop k)).map (pre ++ ·))
    (fun _ i _ => s.size - (intOf i).toNat)
  case atStart => exact ⟨0, [], Nat.zero_le _, rfl, rfl, World.ownsRow_nil _ _ _ _, by (repeat' (first | (with_reducible exact Below.refl _ _) | (with_reducible assumption) | (with_reducible refine Below.next ?_ (by with_reducible assumption)) | (with_reducible refine Below.drew ?_) | (with_reducible refine Below.laid ?_ _) | (with_reducible refine Below.setCell ?_ ?_ _) | (with_reducible refine size_of ?_) | (with_reducible refine Nat.le_succ_of_le ?_) | go_size)), by simp⟩
  case round =>
    obtain ⟨k, pre, hk, rfl, hpl, hown, hb, hrest⟩ := hrel
    obtain ⟨wo, rfl⟩ : ∃ wo : World, wo = wr := ⟨_, rfl⟩
    obtain ⟨A5, cp5, rfl⟩ := ownsRow_slice hown
    have HR := Lib.hid hrest
    have HPL := Lib.hid hpl
    clear hrest hpl
    by_cases hlt : k < s.size
    · have hk1 : (k : Int) < (s.size : Int) := by omega
      have hk0 : (0 : Int) ≤ (k : Int) := by omega
      have HD := Lib.hid (drop_bytes s k hlt)
      have hsb := signOf_bound s[k]
      have HN9 := Lib.hid (lastTo_nine s[k])
      have HST := Lib.hid (lastTo_step s[k])
      go_wp2
      go_loopw [6, 7] (fun kk jj wr => ∃ j : Nat, j ≤ 9 ∧ jj = .int .i64 j ∧ kk = .int .i64 (lastTo s[k] j) ∧ Below wo.heap.size wo wr) (fun _ jj _ => 9 - (intOf jj).toNat)
      case atStart => exact ⟨0, by omega, rfl, rfl, by (repeat' (first | (with_reducible exact Below.refl _ _) | (with_reducible assumption) | (with_reducible refine Below.next ?_ (by with_reducible assumption)) | (with_reducible refine Below.drew ?_) | (with_reducible refine Below.laid ?_ _) | (with_reducible refine Below.setCell ?_ ?_ _) | (with_reducible refine size_of ?_) | (with_reducible refine Nat.le_succ_of_le ?_) | go_size))⟩
      case round =>
        obtain ⟨j, hj, rfl, rfl, hbi⟩ := hrel
        obtain ⟨wi, rfl⟩ : ∃ wi : World, wi = wr := ⟨_, rfl⟩
        by_cases hj9 : j < 9
        · have HJ := Lib.hid (HST.out j hj9)
          have hj1 : (j : Int) < 9 := by omega
          have hj0 : (0 : Int) ≤ (j : Int) := by omega
          have hjs : j < (⟨#[65, 66, 67, 48, 49, 43, 42, 45, 126]⟩ : ByteArray).size := hj9
          generalize lastTo s[k] j = L0 at HJ ⊢
          go_wp2_with fail
          go_quiet (fail)
          by_cases he : (((⟨#[65, 66, 67, 48, 49, 43, 42, 45, 126]⟩ : ByteArray)[j].toNat : Nat) : Int) = ((s[k].toNat : Nat) : Int)
          · have hbe := beq_iff_eq.2 he
            have HV := Lib.hid (show lastTo s[k] (j + 1) = j by rw [HJ.out, if_pos he])
            go_wp2
            go_roundw
            case rel => exact ⟨j + 1, by omega, by go_num, by rw [HV.out], below_drewN hbi _⟩
            case measure => simp [intOf]; omega
          · have hbe := beq_eq_false_iff_ne.2 he
            have HV := Lib.hid (show lastTo s[k] (j + 1) = L0 by rw [HJ.out, if_neg he])
            go_wp2
            go_roundw
            case rel => exact ⟨j + 1, by omega, by go_num, by rw [HV.out], below_drewN hbi _⟩
            case measure => simp [intOf]; omega
        · have hj' : j = 9 := by omega
          subst hj'
          rw [HN9.out]
          have hown2 := ownsRow_still hown hbi
          have hb2 : Below w.heap.size w wi := hb.trans (hbi.mono hb.size)
          by_cases hneg : signOf s[k] < 0
          · have HV := Lib.hid (show readT s.data.toList = none by rw [HR.out, HD.out, readT, if_pos hneg]; rfl)
            generalize signOf s[k] = sg at hneg hsb
            go_wp2
            go_ret2
            exact ⟨_, _, rfl, hb2, .inr ⟨HV.out, rfl, rfl⟩⟩
          · have HV := Lib.hid (show readT s.data.toList = (readT (s.data.toList.drop (k + 1))).map ((pre ++ [signOf s[k]]) ++ ·) by
              rw [HR.out, HD.out, readT, if_neg hneg, Option.map_map]
              congr 1
              funext x
              simp)
            generalize signOf s[k] = sg at hneg hsb HV
            go_wp2_with (at_builtin; refine wpList_app1 _ rfl _ _ rfl w.heap.size _ _ _ rfl (hown2.alloc _) wi.heap.size 1 sg rfl ?hy1 (by omega) (by have := hb2.size; simp; omega) ?_)
            try case hy1 => simp
            intro v' w1 hown' hg'
            go_wp2
            go_roundw
            case rel =>
              refine ⟨k + 1, pre ++ [sg], by omega, by go_num, by simp [HPL.out], by simpa using hown', ?_, HV.out⟩
              have hbs := hb2.size
              exact (hb2.alloc hbs _).grown hg' (by simp; omega) (fun g h => (hown2.lt g h).1)
            case measure => simp [intOf]; omega
    · have hk1 : ¬ (k : Int) < (s.size : Int) := by omega
      have hd : s.data.toList.drop k = [] := List.drop_eq_nil_of_le (by simp; omega)
      have HV := Lib.hid (show readT s.data.toList = some pre by rw [HR.out, hd]; simp [readT])
      clear hd
      go_wp2
      go_ret2
      exact ⟨_, _, rfl, hb, .inl ⟨pre, HV.out, rfl, IsInts.of_own hown⟩⟩
end Go.Proofs.YtcloppcekbdbaaaGreatDoor

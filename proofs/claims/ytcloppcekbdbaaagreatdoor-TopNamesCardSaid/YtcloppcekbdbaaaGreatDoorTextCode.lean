/-
  THE WALKS of text.sign and text.code.
-/
import Derived.Test.YtcloppcekbdbaaaGreatDoorWords
import Derived.Test.YtcloppcekbdbaaaGreatDoorSplit
import Derived.Test.YtcloppcekbdbaaaGreatDoorVennTextF
namespace Go.Proofs.YtcloppcekbdbaaaGreatDoor
open Go.RowKit Go.ChangeShapes
attribute [local go_sem] idxW0 idxW1 idxW2 idxW3

/-- A number and whether there is one. -/
def numS (o : Option Int) : Value := .tuple #[.int .i64 (o.getD 0), .bool o.isSome]
theorem bytes_eq {s : ByteArray} {l : List UInt8} (h : s.data.toList = l) : s = ⟨l.toArray⟩ := by rw [← h]
theorem bytes_ne {s : ByteArray} {l : List UInt8} (h : s.data.toList ≠ l) : (l == s.toList) = false ∧ (s.toList == l) = false ∧ ((⟨l.toArray⟩ : ByteArray) == s) = false := by
  refine ⟨beq_eq_false_iff_ne.2 fun e => h ?_, beq_eq_false_iff_ne.2 fun e => h ?_, ?_⟩
  · rw [e]; simp [ByteArray.toList_eq]
  · rw [← e]; simp [ByteArray.toList_eq]
  · rw [bytes_beq, decide_eq_false]
    intro e; apply h; rw [← e]
theorem one_byteS {s : ByteArray} (h : s.size = 1) (g0 : 0 < s.size) : ∃ a, s[0] = a ∧ s.data.toList = [a] := by
  obtain ⟨⟨l⟩⟩ := s
  match l, h with
  | [a], _ => exact ⟨a, rfl, rfl⟩
theorem sign_long {l : List UInt8} (h1 : l ≠ [97, 110, 100]) (h2 : l ≠ [111, 114]) (h3 : l ≠ [110, 111]) (h4 : l ≠ [116, 104, 101, 110]) (h : l.length ≠ 1) : signO l = none := by
  unfold signO
  rw [if_neg h1, if_neg h2, if_neg h3, if_neg h4]
  match l, h with
  | [], _ => rfl
  | a :: b :: r, _ => rfl
theorem sign_one (a : UInt8) : signO [a] = if 48 ≤ a.toNat ∧ a.toNat ≤ 57 then some ((a.toNat : Int) - 48) else none := by
  unfold signO
  rw [if_neg (by simp), if_neg (by simp), if_neg (by simp), if_neg (by simp)]
  unfold Venn.dig
  simp
set_option maxHeartbeats 4000000 in
set_option maxRecDepth 100000 in
theorem text_sign (s : ByteArray) (w : World) (hw : WordsOk w) : Calls Tryz.prog 123 #[.string s] w (Keeps (numS (signO s.data.toList)) w) := by
  have k0 : w.cell? ⟨1, 0, none⟩ = some (.int .i64 10) := hw 0 _ rfl
  have k1 : w.cell? ⟨1, 1, none⟩ = some (str [97, 110, 100]) := hw 1 _ rfl
  have k2 : w.cell? ⟨1, 2, none⟩ = some (.int .i64 11) := hw 2 _ rfl
  have k3 : w.cell? ⟨1, 3, none⟩ = some (str [111, 114]) := hw 3 _ rfl
  have k4 : w.cell? ⟨1, 4, none⟩ = some (.int .i64 12) := hw 4 _ rfl
  have k5 : w.cell? ⟨1, 5, none⟩ = some (str [110, 111]) := hw 5 _ rfl
  have k6 : w.cell? ⟨1, 6, none⟩ = some (.int .i64 13) := hw 6 _ rfl
  have k7 : w.cell? ⟨1, 7, none⟩ = some (str [116, 104, 101, 110]) := hw 7 _ rfl
  unfold str at k1 k3 k5 k7
  clear hw
  by_cases e1 : s.data.toList = [97, 110, 100]
  · rw [e1, show numS (signO [97, 110, 100]) = .tuple #[.int .i64 10, .bool true] from rfl]
    obtain rfl := bytes_eq e1
    clear e1
    have q0 : ((⟨#[97, 110, 100]⟩ : ByteArray) == ⟨#[97, 110, 100]⟩) = true := by decide
    go_enter Tryz.func123, Tryz.ntmps123
    go_wp2
    refine wp_loop_rounds 1 ?_
    rw [rounds_succ]
    go_wp2
    go_ret2
    exact ⟨rfl, by (repeat' (first | (with_reducible exact Below.refl _ _) | (with_reducible assumption) | (with_reducible refine Below.next ?_ (by with_reducible assumption)) | (with_reducible refine Below.drew ?_) | (with_reducible refine Below.laid ?_ _) | (with_reducible refine Below.setCell ?_ ?_ _) | (with_reducible refine size_of ?_) | (with_reducible refine Nat.le_succ_of_le ?_) | go_size))⟩
  obtain ⟨a1, b1, c1⟩ := bytes_ne e1
  by_cases e2 : s.data.toList = [111, 114]
  · rw [e2, show numS (signO [111, 114]) = .tuple #[.int .i64 11, .bool true] from rfl]
    obtain rfl := bytes_eq e2
    clear e2 e1
    have q0 : ((⟨#[111, 114]⟩ : ByteArray) == ⟨#[111, 114]⟩) = true := by decide
    go_enter Tryz.func123, Tryz.ntmps123
    go_wp2
    refine wp_loop_rounds 2 ?_
    rw [rounds_succ]
    go_wp2_with fail
    rw [rounds_succ]
    go_wp2
    go_ret2
    exact ⟨rfl, by (repeat' (first | (with_reducible exact Below.refl _ _) | (with_reducible assumption) | (with_reducible refine Below.next ?_ (by with_reducible assumption)) | (with_reducible refine Below.drew ?_) | (with_reducible refine Below.laid ?_ _) | (with_reducible refine Below.setCell ?_ ?_ _) | (with_reducible refine size_of ?_) | (with_reducible refine Nat.le_succ_of_le ?_) | go_size))⟩
  obtain ⟨a2, b2, c2⟩ := bytes_ne e2
  by_cases e3 : s.data.toList = [110, 111]
  · rw [e3, show numS (signO [110, 111]) = .tuple #[.int .i64 12, .bool true] from rfl]
    obtain rfl := bytes_eq e3
    clear e3 e2 e1
    have q0 : ((⟨#[110, 111]⟩ : ByteArray) == ⟨#[110, 111]⟩) = true := by decide
    go_enter Tryz.func123, Tryz.ntmps123
    go_wp2
    refine wp_loop_rounds 3 ?_
    rw [rounds_succ]
    go_wp2_with fail
    rw [rounds_succ]
    go_wp2_with fail
    rw [rounds_succ]
    go_wp2
    go_ret2
    exact ⟨rfl, by (repeat' (first | (with_reducible exact Below.refl _ _) | (with_reducible assumption) | (with_reducible refine Below.next ?_ (by with_reducible assumption)) | (with_reducible refine Below.drew ?_) | (with_reducible refine Below.laid ?_ _) | (with_reducible refine Below.setCell ?_ ?_ _) | (with_reducible refine size_of ?_) | (with_reducible refine Nat.le_succ_of_le ?_) | go_size))⟩
  obtain ⟨a3, b3, c3⟩ := bytes_ne e3
  by_cases e4 : s.data.toList = [116, 104, 101, 110]
  · rw [e4, show numS (signO [116, 104, 101, 110]) = .tuple #[.int .i64 13, .bool true] from rfl]
    obtain rfl := bytes_eq e4
    clear e4 e3 e2 e1
    have q0 : ((⟨#[116, 104, 101, 110]⟩ : ByteArray) == ⟨#[116, 104, 101, 110]⟩) = true := by decide
    go_enter Tryz.func123, Tryz.ntmps123
    go_wp2
    refine wp_loop_rounds 4 ?_
    rw [rounds_succ]
    go_wp2_with fail
    rw [rounds_succ]
    go_wp2_with fail
    rw [rounds_succ]
    go_wp2_with fail
    rw [rounds_succ]
    go_wp2
    go_ret2
    exact ⟨rfl, by (repeat' (first | (with_reducible exact Below.refl _ _) | (with_reducible assumption) | (with_reducible refine Below.next ?_ (by with_reducible assumption)) | (with_reducible refine Below.drew ?_) | (with_reducible refine Below.laid ?_ _) | (with_reducible refine Below.setCell ?_ ?_ _) | (with_reducible refine size_of ?_) | (with_reducible refine Nat.le_succ_of_le ?_) | go_size))⟩
  obtain ⟨a4, b4, c4⟩ := bytes_ne e4
  by_cases hs : s.size = 1
  · have g0 : 0 < s.size := by omega
    obtain ⟨x, hx, hl⟩ := one_byteS hs g0
    have HV := Lib.hid (sign_one x)
    rw [hl, HV.out]
    have hsz : (s.size : Int) = 1 := by omega
    clear e1 e2 e3 e4 hl hs HV
    generalize hy : x.toNat = y
    by_cases y1 : y < 48
    · rw [if_neg (by omega), show numS none = .tuple #[.int .i64 0, .bool false] from rfl]
      have y1i : ((y : Nat) : Int) < 48 := by omega
      go_enter Tryz.func123, Tryz.ntmps123
      go_wp2
      refine wp_loop_rounds 5 ?_
      rw [rounds_succ]
      go_wp2_with fail
      rw [rounds_succ]
      go_wp2_with fail
      rw [rounds_succ]
      go_wp2_with fail
      rw [rounds_succ]
      go_wp2_with fail
      rw [rounds_succ]
      go_wp2
      go_ret2
      exact ⟨rfl, by (repeat' (first | (with_reducible exact Below.refl _ _) | (with_reducible assumption) | (with_reducible refine Below.next ?_ (by with_reducible assumption)) | (with_reducible refine Below.drew ?_) | (with_reducible refine Below.laid ?_ _) | (with_reducible refine Below.setCell ?_ ?_ _) | (with_reducible refine size_of ?_) | (with_reducible refine Nat.le_succ_of_le ?_) | go_size))⟩
    · by_cases y2 : 57 < y
      · rw [if_neg (by omega), show numS none = .tuple #[.int .i64 0, .bool false] from rfl]
        have y1i : ¬ ((y : Nat) : Int) < 48 := by omega
        have y2i : (57 : Int) < ((y : Nat) : Int) := by omega
        go_enter Tryz.func123, Tryz.ntmps123
        go_wp2
        refine wp_loop_rounds 5 ?_
        rw [rounds_succ]
        go_wp2_with fail
        rw [rounds_succ]
        go_wp2_with fail
        rw [rounds_succ]
        go_wp2_with fail
        rw [rounds_succ]
        go_wp2_with fail
        rw [rounds_succ]
        go_wp2
        go_ret2
        exact ⟨rfl, by (repeat' (first | (with_reducible exact Below.refl _ _) | (with_reducible assumption) | (with_reducible refine Below.next ?_ (by with_reducible assumption)) | (with_reducible refine Below.drew ?_) | (with_reducible refine Below.laid ?_ _) | (with_reducible refine Below.setCell ?_ ?_ _) | (with_reducible refine size_of ?_) | (with_reducible refine Nat.le_succ_of_le ?_) | go_size))⟩
      · rw [if_pos (by omega), show numS (some ((y : Int) - 48)) = .tuple #[.int .i64 ((y : Int) - 48), .bool true] from rfl]
        have y1i : ¬ ((y : Nat) : Int) < 48 := by omega
        have y2i : ¬ (57 : Int) < ((y : Nat) : Int) := by omega
        have w8 : IntKind.u8.wrap ((y : Int) - 48) = (y : Int) - 48 := IntWalk.u8_in _ (by omega)
        have w64 : IntKind.i64.wrap ((y : Int) - 48) = (y : Int) - 48 := IntWalk.i64_in _ (by omega)
        go_enter Tryz.func123, Tryz.ntmps123
        go_wp2
        refine wp_loop_rounds 5 ?_
        rw [rounds_succ]
        go_wp2_with fail
        rw [rounds_succ]
        go_wp2_with fail
        rw [rounds_succ]
        go_wp2_with fail
        rw [rounds_succ]
        go_wp2_with fail
        rw [rounds_succ]
        go_wp2
        go_ret2
        exact ⟨rfl, by (repeat' (first | (with_reducible exact Below.refl _ _) | (with_reducible assumption) | (with_reducible refine Below.next ?_ (by with_reducible assumption)) | (with_reducible refine Below.drew ?_) | (with_reducible refine Below.laid ?_ _) | (with_reducible refine Below.setCell ?_ ?_ _) | (with_reducible refine size_of ?_) | (with_reducible refine Nat.le_succ_of_le ?_) | go_size))⟩
  · rw [sign_long e1 e2 e3 e4 (by show ¬ s.size = 1; exact hs), show numS none = .tuple #[.int .i64 0, .bool false] from rfl]
    have hsz : ((s.size : Int) != 1) = true := by simp; omega
    clear e1 e2 e3 e4
    go_enter Tryz.func123, Tryz.ntmps123
    go_wp2
    refine wp_loop_rounds 5 ?_
    rw [rounds_succ]
    go_wp2_with fail
    rw [rounds_succ]
    go_wp2_with fail
    rw [rounds_succ]
    go_wp2_with fail
    rw [rounds_succ]
    go_wp2_with fail
    rw [rounds_succ]
    go_wp2
    go_ret2
    exact ⟨rfl, by (repeat' (first | (with_reducible exact Below.refl _ _) | (with_reducible assumption) | (with_reducible refine Below.next ?_ (by with_reducible assumption)) | (with_reducible refine Below.drew ?_) | (with_reducible refine Below.laid ?_ _) | (with_reducible refine Below.setCell ?_ ?_ _) | (with_reducible refine size_of ?_) | (with_reducible refine Nat.le_succ_of_le ?_) | go_size))⟩
/-- What text.code gives. -/
def CodePost (o : Option (List Int)) (w : World) (e : Ending) (w' : World) : Prop :=
  ∃ A n c, e = .returned (.tuple #[.slice A n c, .bool o.isSome]) ∧ Below w.heap.size w w' ∧ ∀ l, o = some l → IsInts w' (.slice A n c) l
theorem signs_drop {W : List (List UInt8)} {k : Nat} {x : List UInt8} (h : W[k]? = some x) : signsO (W.drop k) = match signO x with | none => none | some s => (signsO (W.drop (k + 1))).map (s :: ·) := by
  obtain ⟨hk, e⟩ := List.getElem?_eq_some_iff.1 h
  rw [List.drop_eq_getElem_cons hk, e, signsO]
  rfl
set_option maxHeartbeats 4000000 in
set_option maxRecDepth 100000 in
theorem text_code (s : ByteArray) (w : World) (hs : s.size < 4294967281) (hw : WordsOk w) (hm : MaxOk w) : Calls Tryz.prog 79 #[.string s] w (CodePost (codeO (Venn.cutL 32 s.data.toList)) w) := by
  have HSP := Lib.hid (show Calls Tryz.prog 78 #[.string s, .string ⟨#[32]⟩] w (fun e w' => e = .returned (.slice (some ⟨w.heap.size, 0, none⟩) (Lib.countB s ⟨#[32]⟩ + 1) (Lib.countB s ⟨#[32]⟩ + 1)) ∧ w' = w.alloc (.cells ((wordsOf s).map Value.string).toArray 9)) from strings_Split s ⟨#[32]⟩ w hm hs (by decide))
  have HWL := Lib.hid (words_len s)
  have HCB := Lib.hid (countB_bound hs)
  have HCU := Lib.hid (words_cut s)
  have HSG := Lib.hid (fun x W (hW : Below w.heap.size w W) => text_sign x W (hw.keep hW))
  have HWA := Lib.hid (words_at (w := w) (s := s) (T := 9))
  have hal : Below w.heap.size w (w.alloc (.cells ((wordsOf s).map Value.string).toArray 9)) := by (repeat' (first | (with_reducible exact Below.refl _ _) | (with_reducible assumption) | (with_reducible refine Below.next ?_ (by with_reducible assumption)) | (with_reducible refine Below.drew ?_) | (with_reducible refine Below.laid ?_ _) | (with_reducible refine Below.setCell ?_ ?_ _) | (with_reducible refine size_of ?_) | (with_reducible refine Nat.le_succ_of_le ?_) | go_size))
  clear hw hm hs
  rw [← HCU.out]
  generalize wordsOf s = ws at HSP HWL HCU HWA hal ⊢
  clear HCU
  revert HWA hal
  generalize w.alloc (.cells (ws.map Value.string).toArray 9) = wz at HSP ⊢
  intro HWA hal
  generalize Lib.countB s ⟨#[32]⟩ = N at HSP HWL HCB
  have hN := HCB.out
  have hNL := HWL.out
  have c0 : wz.cell? ⟨w.heap.size, 0, none⟩ = some (.string (ws.getD 0 ⟨#[]⟩)) := HWA.out 0 _ (by rw [List.getD, List.getElem?_eq_getElem (by omega)]; rfl)
  by_cases h0 : wordAt ws 0 = [99, 111, 100, 101]
  · have hX : ws.getD 0 ⟨#[]⟩ = ⟨#[99, 111, 100, 101]⟩ := bytes_word h0
    rw [hX] at c0
    have q0 : ((⟨#[99, 111, 100, 101]⟩ : ByteArray) != ⟨#[99, 111, 100, 101]⟩) = false := by decide
    have HC := Lib.hid (show codeO (ws.map (·.data.toList)) = signsO (ws.map (·.data.toList)).tail by
      unfold codeO
      rw [if_pos]
      rw [← h0]
      unfold wordAt
      rw [List.getD, List.getD, List.getElem?_map]
      cases ws[0]? <;> rfl)
    rw [HC.out, ← List.map_tail]
    have HTL := Lib.hid (show ws.tail.length = N by simp; omega)
    have HTC := Lib.hid (show ∀ (k : Nat) x, ws.tail[k]? = some x → wz.cell? ⟨w.heap.size, k + 1, none⟩ = some (.string x) from fun k x hx => HWA.out (k + 1) x (by rw [List.getElem?_tail] at hx; exact hx))
    clear h0 hX HC HWL hNL HWA HCB
    generalize ws.tail = tl at HTL HTC ⊢
    clear ws
    by_cases hN0 : N = 0
    · subst hN0
      have hnil : tl = [] := List.eq_nil_of_length_eq_zero HTL.out
      subst hnil
      clear HTC HTL
      go_enter Tryz.func79, Tryz.ntmps79
      go_wp2_with fail
      refine (HSP.out).mono ?_
      rintro e w1 ⟨rfl, hw1⟩
      subst hw1
      go_wp2
      refine wp_loop_rounds 1 ?_
      rw [rounds_succ]
      go_wp2
      go_ret2
      exact ⟨none, 0, 0, rfl, hal, fun l h => by cases h; exact IsInts.empty _⟩
    · have hN1 : 1 ≤ N := by omega
      have HAL := Lib.hid hal
      clear hal
      have hN2 : (1 : Int) ≤ ((N + 1 : Nat) : Int) := by omega
      have hcap : ¬ N + 1 = 1 := by omega
      go_enter Tryz.func79, Tryz.ntmps79
      go_wp2_with fail
      refine (HSP.out).mono ?_
      rintro e w1 ⟨rfl, hw1⟩
      subst hw1
      go_wp2_with fail
      clear c0
      go_loopw [5, 19] (fun v i wr => ∃ (k : Nat) (pre : List Int), k ≤ N ∧ i = .int .i64 k ∧ pre.length = k ∧ wr.ownsRow w1.heap.size 3 1 v k (pre.map (Value.int .i64)) ∧ Below w1.heap.size w1 wr ∧ signsO (tl.map (·.data.toList)) = (signsO ((tl.map (·.data.toList)).drop k)).map (pre ++ ·))
        (fun _ i _ => N - (intOf i).toNat)
      case atStart => exact ⟨0, [], Nat.zero_le _, rfl, rfl, World.ownsRow_nil _ _ _ _, Below.refl _ _, by simp⟩
      case round =>
        obtain ⟨k, pre, hk, rfl, hpl, hown, hb, hrest⟩ := hrel
        obtain ⟨wo, rfl⟩ : ∃ wo : World, wo = wr := ⟨_, rfl⟩
        obtain ⟨A5, cp5, rfl⟩ := ownsRow_slice hown
        have HR := Lib.hid hrest
        have HPL := Lib.hid hpl
        have HB := Lib.hid hb
        clear hrest hpl hb
        by_cases hlt : k < N
        · have hk1 : (k : Int) < (N : Int) := by omega
          have hk0 : (0 : Int) ≤ (k : Int) := by omega
          have hki : IntKind.i64.wrap ((k : Int) + 1) = (k : Int) + 1 := IntWalk.i64_in _ (by omega)
          obtain ⟨x, hx⟩ : ∃ x, tl[k]? = some x := ⟨tl[k]'(by have := HTL.out; omega), List.getElem?_eq_getElem _⟩
          have hcell := cell_keep HB.out (HTC.out k x hx)
          have hcell' : wo.cell? ⟨w.heap.size, 1 + k, none⟩ = some (.string x) := by rw [Nat.add_comm]; exact hcell
          have HD := Lib.hid (signs_drop (W := tl.map (·.data.toList)) (k := k) (x := x.data.toList) (by rw [List.getElem?_map, hx]; rfl))
          have HS := Lib.hid (HSG.out x wo (Below.next HAL.out HB.out))
          clear hx
          cases hs : signO x.data.toList with
          | none =>
            rw [hs] at HS
            have HV := Lib.hid (show signsO (tl.map (·.data.toList)) = none by rw [HR.out, HD.out, hs]; rfl)
            rw [show numS none = .tuple #[.int .i64 0, .bool false] from rfl] at HS
            clear hs HD HR
            go_wp2_with fail
            refine (HS.out).mono ?_
            rintro e w2 ⟨rfl, hb2⟩
            go_wp2
            go_ret2
            exact ⟨none, 0, 0, by rw [HV.out]; rfl, Below.next HAL.out (Below.next HB.out hb2), fun l h => by rw [HV.out] at h; cases h⟩
          | some sg =>
            rw [hs] at HS
            have HV := Lib.hid (show signsO (tl.map (·.data.toList)) = (signsO ((tl.map (·.data.toList)).drop (k + 1))).map ((pre ++ [sg]) ++ ·) by
              rw [HR.out, HD.out, hs]
              show Option.map _ (Option.map _ _) = _
              rw [Option.map_map]
              congr 1
              funext y
              simp)
            rw [show numS (some sg) = .tuple #[.int .i64 sg, .bool true] from rfl] at HS
            clear hs HD HR
            go_wp2_with fail
            refine (HS.out).mono ?_
            rintro e w2 ⟨rfl, hb2⟩
            have hown2 := own_kept hown hb2
            have HB2 := Lib.hid (Below.next HB.out hb2)
            go_wp2_with (at_builtin; refine wpList_app1 _ rfl _ _ rfl w1.heap.size _ _ _ rfl (hown2.alloc _) w2.heap.size 1 sg rfl ?hy1 (by omega) (by have := HB2.out.size; simp; omega) ?_)
            try case hy1 => simp
            intro v' w3 hown' hg'
            go_wp2
            go_roundw
            case rel =>
              refine ⟨k + 1, pre ++ [sg], by omega, by go_num, by simp [HPL.out], by simpa using hown', ?_, HV.out⟩
              have hbs := HB2.out.size
              exact (HB2.out.alloc hbs _).grown hg' (by simp; omega) (fun g h => (hown2.lt g h).1)
            case measure => simp [intOf]; omega
        · have hk1 : ¬ (k : Int) < (N : Int) := by omega
          have hd : (tl.map (·.data.toList)).drop k = [] := List.drop_eq_nil_of_le (by simp; have := HTL.out; omega)
          have HV := Lib.hid (show signsO (tl.map (·.data.toList)) = some pre by rw [HR.out, hd]; simp [signsO])
          clear hd
          go_wp2
          go_ret2
          refine ⟨A5, k, cp5, by rw [HV.out]; rfl, Below.next HAL.out HB.out, fun l h => ?_⟩
          rw [HV.out] at h
          cases h
          have := IsInts.of_own (l := pre) hown
          exact this
  · have HV := Lib.hid (show codeO (ws.map (·.data.toList)) = none by
      unfold codeO
      rw [if_neg]
      intro e
      apply h0
      rw [← e]
      unfold wordAt
      rw [List.getD, List.getD, List.getElem?_map]
      cases ws[0]? <;> rfl)
    have q1 := word_ne h0
    have q2 : ((ws.getD 0 ⟨#[]⟩).toList == ([99, 111, 100, 101] : List UInt8)) = false := by rw [Bool.beq_comm]; exact q1
    have q3 : ((ws.getD 0 ⟨#[]⟩).toList != ([99, 111, 100, 101] : List UInt8)) = true := by rw [bne, q2]; rfl
    rw [HV.out]
    clear h0 HV HWA HWL HCB hNL
    generalize ws.getD 0 ⟨#[]⟩ = X at c0 q1 q2 q3
    go_enter Tryz.func79, Tryz.ntmps79
    go_wp2_with fail
    refine (HSP.out).mono ?_
    rintro e w1 ⟨rfl, hw1⟩
    subst hw1
    go_wp2
    go_ret2
    exact ⟨none, 0, 0, rfl, hal, fun l h => by cases h⟩
end Go.Proofs.YtcloppcekbdbaaaGreatDoor

/-
  THE WALK of the reference's ReadAtom (printed by gen_refread.py).
-/
import Derived.Test.YtcloppcekbdbaaaGreatDoorRefNum
import Derived.Test.YtcloppcekbdbaaaGreatDoorParseAtom
import Derived.Test.YtcloppcekbdbaaaGreatDoorRefG
namespace Go.Proofs.YtcloppcekbdbaaaGreatDoor
open Go.RowKit Go.ChangeShapes

set_option maxHeartbeats 4000000 in
set_option maxRecDepth 100000 in
theorem ref_ReadTermF (s : ByteArray) (w : World) (hs : s.size < 1099511627776) : Calls Tryz.prog 89 #[.string s] w (ReadPostF s w) := by
  go_enter Tryz.func89, Tryz.ntmps89
  go_wp2
  go_loopw [4, 5] (fun v i wr => ∃ (k : Nat) (pre : List Int), k ≤ s.size ∧ i = .int .i64 k ∧ pre.length = k ∧ wr.ownsRow w.heap.size 3 1 v k (pre.map (Value.int .i64)) ∧ Below w.heap.size w wr ∧ readT s.data.toList = (readT (s.data.toList.drop k)).map (pre ++ ·))
    (fun _ i _ => s.size - (intOf i).toNat)
  case atStart => exact ⟨0, [], Nat.zero_le _, rfl, rfl, World.ownsRow_nil _ _ _ _, by (repeat' (first | (with_reducible exact Below.refl _ _) | (with_reducible assumption) | (with_reducible refine Below.next ?_ (by with_reducible assumption)) | (with_reducible refine Below.drew ?_) | (with_reducible refine Below.laid ?_ _) | (with_reducible refine Below.setCell ?_ ?_ _) | (with_reducible refine size_of ?_) | (with_reducible refine Nat.le_succ_of_le ?_) | go_size)), by simp⟩
  case round =>
    obtain ⟨k, pre, hk, rfl, hpl, hown, hb, hrest⟩ := hrel
    obtain ⟨wo, rfl⟩ : ∃ wo : World, wo = wr := ⟨_, rfl⟩
    obtain ⟨A5, cp5, rfl⟩ := ownsRow_slice hown
    have HR := Lib.hid hrest
    have HPL := Lib.hid hpl
    clear hrest hpl
    by_cases hlt : k < s.size
    · have hk1 : (k : Int) < (s.size : Int) := by omega
      have hk0 : (0 : Int) ≤ (k : Int) := by omega
      have HD := Lib.hid (drop_bytes s k hlt)
      have hsb := signOf_bound s[k]
      have HN9 := Lib.hid (lastTo_nine s[k])
      have HST := Lib.hid (lastTo_step s[k])
      go_wp2
      go_loopw [6, 7] (fun kk jj wr => ∃ j : Nat, j ≤ 9 ∧ jj = .int .i64 j ∧ kk = .int .i64 (lastTo s[k] j) ∧ Below wo.heap.size wo wr) (fun _ jj _ => 9 - (intOf jj).toNat)
      case atStart => exact ⟨0, by omega, rfl, rfl, by (repeat' (first | (with_reducible exact Below.refl _ _) | (with_reducible assumption) | (with_reducible refine Below.next ?_ (by with_reducible assumption)) | (with_reducible refine Below.drew ?_) | (with_reducible refine Below.laid ?_ _) | (with_reducible refine Below.setCell ?_ ?_ _) | (with_reducible refine size_of ?_) | (with_reducible refine Nat.le_succ_of_le ?_) | go_size))⟩
      case round =>
        obtain ⟨j, hj, rfl, rfl, hbi⟩ := hrel
        obtain ⟨wi, rfl⟩ : ∃ wi : World, wi = wr := ⟨_, rfl⟩
        by_cases hj9 : j < 9
        · have HJ := Lib.hid (HST.out j hj9)
          have hj1 : (j : Int) < 9 := by omega
          have hj0 : (0 : Int) ≤ (j : Int) := by omega
          have hjs : j < (⟨#[65, 66, 67, 48, 49, 43, 42, 45, 126]⟩ : ByteArray).size := hj9
          generalize lastTo s[k] j = L0 at HJ ⊢
          go_wp2_with fail
          go_quiet (fail)
          by_cases he : (((⟨#[65, 66, 67, 48, 49, 43, 42, 45, 126]⟩ : ByteArray)[j].toNat : Nat) : Int) = ((s[k].toNat : Nat) : Int)
          · have hbe := beq_iff_eq.2 he
            have HV := Lib.hid (show lastTo s[k] (j + 1) = j by rw [HJ.out, if_pos he])
            go_wp2
            go_roundw
            case rel => exact ⟨j + 1, by omega, by go_num, by rw [HV.out], below_drewN hbi _⟩
            case measure => simp [intOf]; omega
          · have hbe := beq_eq_false_iff_ne.2 he
            have HV := Lib.hid (show lastTo s[k] (j + 1) = L0 by rw [HJ.out, if_neg he])
            go_wp2
            go_roundw
            case rel => exact ⟨j + 1, by omega, by go_num, by rw [HV.out], below_drewN hbi _⟩
            case measure => simp [intOf]; omega
        · have hj' : j = 9 := by omega
          subst hj'
          rw [HN9.out]
          have hown2 := ownsRow_still hown hbi
          have hb2 : Below w.heap.size w wi := hb.trans (hbi.mono hb.size)
          by_cases hneg : signOf s[k] < 0
          · have HV := Lib.hid (show readT s.data.toList = none by rw [HR.out, HD.out, readT, if_pos hneg]; rfl)
            generalize signOf s[k] = sg at hneg hsb
            go_wp2
            go_ret2
            exact ⟨_, _, rfl, hb2, .inr ⟨HV.out, rfl, rfl⟩⟩
          · have HV := Lib.hid (show readT s.data.toList = (readT (s.data.toList.drop (k + 1))).map ((pre ++ [signOf s[k]]) ++ ·) by
              rw [HR.out, HD.out, readT, if_neg hneg, Option.map_map]
              congr 1
              funext x
              simp)
            generalize signOf s[k] = sg at hneg hsb HV
            go_wp2_with (at_builtin; refine wpList_app1 _ rfl _ _ rfl w.heap.size _ _ _ rfl (hown2.alloc _) wi.heap.size 1 sg rfl ?hy1 (by omega) (by have := hb2.size; simp; omega) ?_)
            try case hy1 => simp
            intro v' w1 hown' hg'
            go_wp2
            go_roundw
            case rel =>
              refine ⟨k + 1, pre ++ [sg], by omega, by go_num, by simp [HPL.out], by simpa using hown', ?_, HV.out⟩
              have hbs := hb2.size
              exact (hb2.alloc hbs _).grown hg' (by simp; omega) (fun g h => (hown2.lt g h).1)
            case measure => simp [intOf]; omega
    · have hk1 : ¬ (k : Int) < (s.size : Int) := by omega
      have hd : s.data.toList.drop k = [] := List.drop_eq_nil_of_le (by simp; omega)
      have HV := Lib.hid (show readT s.data.toList = some pre by rw [HR.out, hd]; simp [readT])
      clear hd
      go_wp2
      go_ret2
      exact ⟨_, _, rfl, hb, .inl ⟨pre, HV.out, rfl, IsInts.of_own hown, fresh_of_own hown⟩⟩
/-- What the reference gives of an atom: it, and the fault. -/
def AtomGivenR (a : Venn.Atom) (e : Int) (w : World) (x : Ending) (w' : World) : Prop :=
  ∃ A n c A' n' c', x = .returned (.tuple #[.agg #[.int .i64 a.what, .slice A n c, .slice A' n' c', .int .i64 a.n], .int .i64 e]) ∧ Below w.heap.size w w' ∧ IsInts w' (.slice A n c) a.s ∧ IsInts w' (.slice A' n' c') a.t
/-- .. its rows behind w. -/
def AtomGivenRF (a : Venn.Atom) (e : Int) (w : World) (x : Ending) (w' : World) : Prop :=
  ∃ A n c A' n' c', x = .returned (.tuple #[.agg #[.int .i64 a.what, .slice A n c, .slice A' n' c', .int .i64 a.n], .int .i64 e]) ∧ Below w.heap.size w w' ∧ IsInts w' (.slice A n c) a.s ∧ IsInts w' (.slice A' n' c') a.t ∧ FreshV w (.slice A n c) ∧ FreshV w (.slice A' n' c')
theorem words_cutB (s : ByteArray) : cutB 32 s = wordsOf s := strs_inj (by rw [cutB_data, words_cut])
theorem ref_Cut32 (s : ByteArray) (w : World) (hs : s.size < 4294967281) :
    Calls Tryz.prog 77 #[.string s, .int .u8 32] w (fun e w' => ∃ v, e = .returned v ∧ Below w.heap.size w w' ∧ IsStrs w' v (wordsOf s)) := by
  have h := ref_Cut s 32 w hs
  rw [words_cutB] at h
  exact h
theorem getD_size {ws : List ByteArray} {N : Nat} (h : ∀ x ∈ ws, x.size < N) (h0 : 0 < N) (k : Nat) : (ws.getD k ⟨#[]⟩).size < N := by
  by_cases hk : k < ws.length
  · rw [List.getD, List.getElem?_eq_getElem hk]; exact h _ (List.getElem_mem hk)
  · rw [List.getD, List.getElem?_eq_none (by omega)]; exact h0
theorem strs_at {w : World} {A : Option Addr} {l : List ByteArray} (h : Rd w A (l.map Value.string)) {k : Nat} (hk : k < l.length) : ∃ ad, A = some ad ∧ w.cell? (ad.add k) = some (.string (l.getD k ⟨#[]⟩)) := by
  refine h k _ ?_
  rw [List.getElem?_map, List.getD, List.getElem?_eq_getElem hk]; rfl
theorem fresh_some {w : World} {N : Nat} {A : Option Addr} {n c : Nat} (hw : w.heap.size ≤ N) (h : ∀ ad, A = some ad → N ≤ ad.block) : FreshV w (.slice A n c) := by
  intro ad n' c' e
  injection e with e1
  exact Nat.le_trans hw (h ad e1)
theorem set4_1 {w : World} {g : Nat} {t : TypeId} {y0 y1 y2 y3 : Value} (h : Blk w g t #[y0, y1, y2, y3]) (x : Value) : Blk (w.setCell ⟨g, 0, none⟩ x) g t #[x, y1, y2, y3] := by simpa using h.set_ 0 x
theorem set4_2 {w : World} {g : Nat} {t : TypeId} {y0 y1 y2 y3 : Value} (h : Blk w g t #[y0, y1, y2, y3]) (x : Value) : Blk (w.setCell ⟨g, 1, none⟩ x) g t #[y0, x, y2, y3] := by simpa using h.set_ 1 x
theorem set4_3 {w : World} {g : Nat} {t : TypeId} {y0 y1 y2 y3 : Value} (h : Blk w g t #[y0, y1, y2, y3]) (x : Value) : Blk (w.setCell ⟨g, 2, none⟩ x) g t #[y0, y1, x, y3] := by simpa using h.set_ 2 x
theorem set4_4 {w : World} {g : Nat} {t : TypeId} {y0 y1 y2 y3 : Value} (h : Blk w g t #[y0, y1, y2, y3]) (x : Value) : Blk (w.setCell ⟨g, 3, none⟩ x) g t #[y0, y1, y2, x] := by simpa using h.set_ 3 x
theorem isTerm_none {ws : List ByteArray} {k : Nat} (h : readT (ws.getD k ⟨#[]⟩).data.toList = none) : isTerm ws k = false := by
  unfold isTerm; rw [show readT (wordAt ws k) = none from h]; simp
theorem isTerm_some {ws : List ByteArray} {k : Nat} {l : List Int} (hk : k < ws.length) (h : readT (ws.getD k ⟨#[]⟩).data.toList = some l) : isTerm ws k = true ∧ termAt ws k = l := by
  unfold isTerm termAt; rw [show readT (wordAt ws k) = some l from h]; simp [hk]
theorem isNum_none {ws : List ByteArray} {k : Nat} (h : Venn.readNum (ws.getD k ⟨#[]⟩).data.toList = none) : isNum ws k = false := by
  unfold isNum; rw [show numO (wordAt ws k) = none from (numO_eq _).trans h]; simp
theorem isNum_some {ws : List ByteArray} {k : Nat} {n : Int} (hk : k < ws.length) (h : Venn.readNum (ws.getD k ⟨#[]⟩).data.toList = some n) : isNum ws k = true ∧ numAt ws k = n := by
  unfold isNum numAt; rw [show numO (wordAt ws k) = some n from (numO_eq _).trans h]; simp [hk]
theorem isTerm_lt {ws : List ByteArray} {k : Nat} (h : isTerm ws k = true) : k < ws.length := by unfold isTerm at h; simp at h; exact h.1
theorem isNum_lt {ws : List ByteArray} {k : Nat} (h : isNum ws k = true) : k < ws.length := by unfold isNum at h; simp at h; exact h.1
theorem readST_len {x : Int} {ws : List ByteArray} (h : ws.length ≠ 3) : readST x ws = none := by
  unfold readST; rw [if_neg]; intro hc; simp only [Bool.and_eq_true, decide_eq_true_eq] at hc; have := isTerm_lt hc.1.2; omega
theorem readST_1 {x : Int} {ws : List ByteArray} (h : readT (ws.getD 1 ⟨#[]⟩).data.toList = none) : readST x ws = none := by unfold readST; rw [isTerm_none h]; simp
theorem readST_2 {x : Int} {ws : List ByteArray} (h : readT (ws.getD 2 ⟨#[]⟩).data.toList = none) : readST x ws = none := by unfold readST; rw [isTerm_none h]; simp
theorem readST_ok {x : Int} {ws : List ByteArray} (hl : ws.length = 3) {s : List Int} (h1 : readT (ws.getD 1 ⟨#[]⟩).data.toList = some s) {t : List Int} (h2 : readT (ws.getD 2 ⟨#[]⟩).data.toList = some t) : readST x ws = some ⟨x, s, t, 0⟩ := by
  obtain ⟨a1, b1⟩ := isTerm_some (by omega) h1
  obtain ⟨a2, b2⟩ := isTerm_some (by omega) h2
  unfold readST; rw [a1, a2, b1, b2]; simp [hl]
theorem readSN_len {x : Int} {ws : List ByteArray} (h : ws.length ≠ 3) : readSN x ws = none := by
  unfold readSN; rw [if_neg]; intro hc; simp only [Bool.and_eq_true, decide_eq_true_eq] at hc; have := isNum_lt hc.1.2; omega
theorem readSN_1 {x : Int} {ws : List ByteArray} (h : readT (ws.getD 1 ⟨#[]⟩).data.toList = none) : readSN x ws = none := by unfold readSN; rw [isTerm_none h]; simp
theorem readSN_2 {x : Int} {ws : List ByteArray} (h : Venn.readNum (ws.getD 2 ⟨#[]⟩).data.toList = none) : readSN x ws = none := by unfold readSN; rw [isNum_none h]; simp
theorem readSN_ok {x : Int} {ws : List ByteArray} (hl : ws.length = 3) {s : List Int} (h1 : readT (ws.getD 1 ⟨#[]⟩).data.toList = some s) {n : Int} (h2 : Venn.readNum (ws.getD 2 ⟨#[]⟩).data.toList = some n) : readSN x ws = some ⟨x, s, [], n⟩ := by
  obtain ⟨a1, b1⟩ := isTerm_some (by omega) h1
  obtain ⟨a2, b2⟩ := isNum_some (by omega) h2
  unfold readSN; rw [a1, a2, b1, b2]; simp [hl]
theorem readSTN_len {x : Int} {ws : List ByteArray} (h : ws.length ≠ 4) : readSTN x ws = none := by
  unfold readSTN; rw [if_neg]; intro hc; simp only [Bool.and_eq_true, decide_eq_true_eq] at hc; have := isNum_lt hc.1.2; omega
theorem readSTN_1 {x : Int} {ws : List ByteArray} (h : readT (ws.getD 1 ⟨#[]⟩).data.toList = none) : readSTN x ws = none := by unfold readSTN; rw [isTerm_none h]; simp
theorem readSTN_2 {x : Int} {ws : List ByteArray} (h : readT (ws.getD 2 ⟨#[]⟩).data.toList = none) : readSTN x ws = none := by unfold readSTN; rw [isTerm_none h]; simp
theorem readSTN_3 {x : Int} {ws : List ByteArray} (h : Venn.readNum (ws.getD 3 ⟨#[]⟩).data.toList = none) : readSTN x ws = none := by unfold readSTN; rw [isNum_none h]; simp
theorem readSTN_ok {x : Int} {ws : List ByteArray} (hl : ws.length = 4) {s : List Int} (h1 : readT (ws.getD 1 ⟨#[]⟩).data.toList = some s) {t : List Int} (h2 : readT (ws.getD 2 ⟨#[]⟩).data.toList = some t) {n : Int} (h3 : Venn.readNum (ws.getD 3 ⟨#[]⟩).data.toList = some n) : readSTN x ws = some ⟨x, s, t, n⟩ := by
  obtain ⟨a1, b1⟩ := isTerm_some (by omega) h1
  obtain ⟨a2, b2⟩ := isTerm_some (by omega) h2
  obtain ⟨a3, b3⟩ := isNum_some (by omega) h3
  unfold readSTN; rw [a1, a2, a3, b1, b2, b3]; simp [hl]
theorem add_zero (ad : Addr) : ad.add 0 = ad := by unfold Addr.add; split <;> (cases ad; simp_all)
set_option maxHeartbeats 4000000 in
set_option maxRecDepth 100000 in
theorem refread_1 (s : ByteArray) (w : World) (hs : s.size < 4294967281) (hw0 : wordAt (wordsOf s) 0 = Venn.wordB 1) : Calls Tryz.prog 41 #[.string s] w (AtomGivenRF (parseAV (readST 1 (wordsOf s))) (parseAChk (readST 1 (wordsOf s))) w) := by
  have hX : (wordsOf s).getD 0 ⟨#[]⟩ = ⟨#[115, 117, 98]⟩ := bytes_word hw0
  have HCT := Lib.hid (fun W => ref_Cut32 s W hs)
  have HPOS := Lib.hid (show 0 < (wordsOf s).length by rw [words_len]; omega)
  have hsz := getD_size (words_size hs) (by decide)
  clear hw0 hs
  generalize wordsOf s = ws at hX HCT HPOS hsz ⊢
  have HL := Lib.hid (fun h => readST_len (x := 1) (ws := ws) h)
  have H1 := Lib.hid (fun h => readST_1 (x := 1) (ws := ws) h)
  have H2 := Lib.hid (fun h => readST_2 (x := 1) (ws := ws) h)
  have HOK := Lib.hid (fun (hl : ws.length = 3) (s : List Int) (t : List Int) h1 h2 => readST_ok (x := 1) hl (s := s) (t := t) h1 h2)
  have HR1 := Lib.hid (fun W => ref_ReadTermF (ws.getD 1 ⟨#[]⟩) W (Nat.lt_trans (hsz 1) (by decide)))
  have HR2 := Lib.hid (fun W => ref_ReadTermF (ws.getD 2 ⟨#[]⟩) W (Nat.lt_trans (hsz 2) (by decide)))
  clear hsz
  generalize readST 1 ws = O at H1 H2 HOK HL ⊢
  have hal0 : Below w.heap.size w (w.alloc (.cells #[.int .i64 0, .slice none 0 0, .slice none 0 0, .int .i64 0] 32)) := by (repeat' (first | (with_reducible exact Below.refl _ _) | (with_reducible assumption) | (with_reducible refine Below.next ?_ (by with_reducible assumption)) | (with_reducible refine Below.drew ?_) | (with_reducible refine Below.laid ?_ _) | (with_reducible refine Below.setCell ?_ ?_ _) | (with_reducible refine size_of ?_) | (with_reducible refine Nat.le_succ_of_le ?_) | go_size))
  have BR0 := Lib.hid (Blk.new w 32 #[.int .i64 0, .slice none 0 0, .slice none 0 0, .int .i64 0])
  have hz : (w.alloc (.cells #[.int .i64 0, .slice none 0 0, .slice none 0 0, .int .i64 0] 32)).heap.size = w.heap.size + 1 := by simp
  go_enter Tryz.func41, Tryz.ntmps41
  go_upto_region 1 with (fail)
  revert hal0 BR0 hz
  generalize w.alloc (.cells #[.int .i64 0, .slice none 0 0, .slice none 0 0, .int .i64 0] 32) = w0
  intro hal0 BR0 hz
  have HZ := Lib.hid hz
  have HB0 := Lib.hid hal0
  clear hal0 hz
  go_wp2_with fail
  refine (HCT.out w0).mono ?_
  rintro e w1 ⟨v, rfl, hb1, A, cA, hv, hr, hc1, hc2⟩
  have HB1 := Lib.hid (Below.next HB0.out hb1)
  have BR1 := Lib.hid (BR0.out.keep hb1)
  have HW1 := Lib.hid (show w.heap.size < w1.heap.size from BR1.out.lt)
  obtain ⟨ad, rfl, hx0⟩ := strs_at hr HPOS.out
  have HRR := Lib.hid (show ∀ k, k < ws.length → w1.cell? (ad.add k) = some (.string (ws.getD k ⟨#[]⟩)) from fun k hk => by obtain ⟨a2, e, h⟩ := strs_at hr hk; cases e; exact h)
  clear hr hc1 hc2 hb1 BR0
  have BA2 := Blk.new w1 32 #[.int .i64 0, .slice none 0 0, .slice none 0 0, .int .i64 0]
  have hb2 : Below w1.heap.size w1 (w1.alloc (.cells #[.int .i64 0, .slice none 0 0, .slice none 0 0, .int .i64 0] 32)) := (Below.refl _ _).alloc (Nat.le_refl _) _
  subst hv
  go_upto_region 3 with (fail)
  revert BA2 hb2
  generalize w1.alloc (.cells #[.int .i64 0, .slice none 0 0, .slice none 0 0, .int .i64 0] 32) = w2
  intro BA2 hb2
  have x0 := cell_keep hb2 hx0
  have x0' : w2.cell? ad = some (.string (ws.getD 0 ⟨#[]⟩)) := by have := x0; rwa [add_zero] at this
  clear hx0
  rw [hX] at x0 x0'
  obtain ⟨a0, a1, a2, a3⟩ := BA2.cells4
  have f0 := BA2.frozen 0
  have BA3 := Lib.hid (set4_1 BA2 (.int .i64 1))
  have HB3 := Lib.hid (hb2.setCell (p := ⟨w1.heap.size, 0, none⟩) (Nat.le_refl _) (.int .i64 1))
  generalize hX1 : ws.getD 1 ⟨#[]⟩ = X1 at H1 HOK HR1
  generalize hX2 : ws.getD 2 ⟨#[]⟩ = X2 at H2 HOK HR2
  have HX1 := Lib.hid hX1
  clear hX1
  have HX2 := Lib.hid hX2
  clear hX2
  clear BA2 hb2
  go_upto_region 15 with (fail)
  clear a0 a1 a2 a3 f0 x0 x0' hX
  revert BA3 HB3
  generalize World.setCell _ _ _ = w3
  intro BA3 HB3
  have HLA := Lib.hid BA3.out.lt
  have a0 : w3.cell? ⟨w1.heap.size, 0, none⟩ = some (.int .i64 1) := BA3.out.cell 0
  by_cases hL : ws.length = 3
  focus
    rw [hL]
    have X1c := Lib.hid (show w1.cell? (ad.add 1) = some (.string X1) by have := HRR.out 1 (by omega); rwa [HX1.out] at this)
    have X2c := Lib.hid (show w1.cell? (ad.add 2) = some (.string X2) by have := HRR.out 2 (by omega); rwa [HX2.out] at this)
    have HLN := Lib.hid hL
    clear hL
    have x1 : w3.cell? ⟨ad.block, ad.off + 1, none⟩ = some (.string X1) := cell_keep HB3.out X1c.out
    go_wp2_with fail
    refine (HR1.out w3).mono ?_
    rintro e w4 ⟨v1, b1, rfl, hb4, hcase⟩
    have HB4 := Lib.hid (Below.next HB3.out hb4)
    have BA4 := Lib.hid (BA3.out.keep hb4)
    clear a0 x1
    rcases hcase with ⟨l1, h1, rfl, hI, hF⟩ | ⟨h1, rfl, rfl⟩
    rotate_left
    focus
      have HN := Lib.hid (H1.out h1)
      have BRk := BR1.out.keep HB4.out
      have HBk := Below.next HB1.out HB4.out
      obtain ⟨r0, r1, r2, r3⟩ := BRk.cells4
      have q0 := BRk.frozen 0
      have q1 := BRk.frozen 1
      have q2 := BRk.frozen 2
      have q3 := BRk.frozen 3
      have GL := Lib.hid (below_set4 HBk (Nat.le_refl _) (.int .i64 0) (.slice none 0 0) (.slice none 0 0) (.int .i64 0))
      have GS := Lib.hid (BRk.set4 (.int .i64 0) (.slice none 0 0) (.slice none 0 0) (.int .i64 0))
      clear BRk HBk
      go_wp2
      clear r0 r1 r2 r3 q0 q1 q2 q3
      revert GL GS
      generalize World.setCell _ _ _ = Wf
      intro GL GS
      obtain ⟨e0, e1, e2, e3⟩ := GS.out.cells4
      refine bodyPost_ret (v := .tuple #[.agg #[.int .i64 0, .slice none 0 0, .slice none 0 0, .int .i64 0], .int .i64 (2)]) (by simp [results, Tryz.results41, go_sem, e0, e1, e2, e3]) rfl ?_
      rw [HN.out]
      exact ⟨none, 0, 0, none, 0, 0, rfl, GL.out, IsInts.empty _, IsInts.empty _, fresh_none _ _ _, fresh_none _ _ _⟩
    obtain ⟨S, cS, rfl, _⟩ := id hI
    have HK1 := Lib.hid h1
    have HI1 := Lib.hid (ints_fresh hI hF (show w1.heap.size < w3.heap.size from BA3.out.lt) 1 (.slice S l1.length cS))
    have HF1 := Lib.hid (show ∀ ad, S = some ad → w3.heap.size ≤ ad.block from fun ad e => hF ad _ _ (by rw [e]))
    have HE1 := Lib.hid (show FreshV w3 (.slice S l1.length cS) from hF)
    have HG1 := Lib.hid (show w1.heap.size < w3.heap.size from BA3.out.lt)
    clear hI hF h1 hb4
    have aT : w4.cell? ⟨w1.heap.size, 1, none⟩ = some (.slice none 0 0) := BA4.out.cell 1
    have fT := BA4.out.frozen 1
    have BB := Lib.hid (set4_2 BA4.out (.slice S l1.length cS))
    have HBB := Lib.hid ((HB4.out).setCell (p := ⟨w1.heap.size, 1, none⟩) (Nat.le_refl _) (.slice S l1.length cS))
    go_upto_region 24 with (fail)
    clear aT fT
    revert HI1 BB HBB
    generalize World.setCell _ _ _ = w5
    intro HI1 BA5 HB5
    have a0 : w5.cell? ⟨w1.heap.size, 0, none⟩ = some (.int .i64 1) := BA5.out.cell 0
    have x2 : w5.cell? ⟨ad.block, ad.off + 2, none⟩ = some (.string X2) := cell_keep HB5.out X2c.out
    go_wp2_with fail
    refine (HR2.out w5).mono ?_
    rintro e w6 ⟨v2, b2, rfl, hb6, hcase⟩
    have HB6 := Lib.hid (Below.next HB5.out hb6)
    have BA6 := Lib.hid (BA5.out.keep hb6)
    clear a0 x2
    rcases hcase with ⟨l2, h2, rfl, hI, hF⟩ | ⟨h2, rfl, rfl⟩
    rotate_left
    focus
      have HN := Lib.hid (H2.out h2)
      have BRk := BR1.out.keep HB6.out
      have HBk := Below.next HB1.out HB6.out
      obtain ⟨r0, r1, r2, r3⟩ := BRk.cells4
      have q0 := BRk.frozen 0
      have q1 := BRk.frozen 1
      have q2 := BRk.frozen 2
      have q3 := BRk.frozen 3
      have GL := Lib.hid (below_set4 HBk (Nat.le_refl _) (.int .i64 0) (.slice none 0 0) (.slice none 0 0) (.int .i64 0))
      have GS := Lib.hid (BRk.set4 (.int .i64 0) (.slice none 0 0) (.slice none 0 0) (.int .i64 0))
      clear BRk HBk
      go_wp2
      clear r0 r1 r2 r3 q0 q1 q2 q3
      revert GL GS
      generalize World.setCell _ _ _ = Wf
      intro GL GS
      obtain ⟨e0, e1, e2, e3⟩ := GS.out.cells4
      refine bodyPost_ret (v := .tuple #[.agg #[.int .i64 0, .slice none 0 0, .slice none 0 0, .int .i64 0], .int .i64 (2)]) (by simp [results, Tryz.results41, go_sem, e0, e1, e2, e3]) rfl ?_
      rw [HN.out]
      exact ⟨none, 0, 0, none, 0, 0, rfl, GL.out, IsInts.empty _, IsInts.empty _, fresh_none _ _ _, fresh_none _ _ _⟩
    obtain ⟨T, cT, rfl, _⟩ := id hI
    have HK2 := Lib.hid h2
    have HI2 := Lib.hid (ints_fresh hI hF (show w1.heap.size < w5.heap.size from BA5.out.lt) 2 (.slice T l2.length cT))
    have HF2 := Lib.hid (show ∀ ad, T = some ad → w5.heap.size ≤ ad.block from fun ad e => hF ad _ _ (by rw [e]))
    have HE2 := Lib.hid (show FreshV w5 (.slice T l2.length cT) from hF)
    have HJ1 := Lib.hid (ints_fresh (HI1.out.keep hb6) HE1.out (show w1.heap.size < w3.heap.size from HG1.out) 2 (.slice T l2.length cT))
    clear HI1
    have HG2 := Lib.hid (show w1.heap.size < w5.heap.size from BA5.out.lt)
    clear hI hF h2 hb6
    have aT : w6.cell? ⟨w1.heap.size, 2, none⟩ = some (.slice none 0 0) := BA6.out.cell 2
    have fT := BA6.out.frozen 2
    have BB := Lib.hid (set4_3 BA6.out (.slice T l2.length cT))
    have HBB := Lib.hid ((HB6.out).setCell (p := ⟨w1.heap.size, 2, none⟩) (Nat.le_refl _) (.slice T l2.length cT))
    go_upto_region 29 with (fail)
    clear aT fT
    revert HI2 HJ1 BB HBB
    generalize World.setCell _ _ _ = w7
    intro HI2 HI1 BA7 HB7
    have a0 : w7.cell? ⟨w1.heap.size, 0, none⟩ = some (.int .i64 1) := BA7.out.cell 0
    clear a0
    have HV := Lib.hid (HOK.out HLN.out l1 l2 HK1.out HK2.out)
    have HAT := Lib.hid (fun W (hW : Below w7.heap.size w7 W) => ref_Atom 1 (0) (.slice S l1.length cS) (.slice T l2.length cT) l1 l2 W (HI1.out.keep hW) (HI2.out.keep hW))
    obtain ⟨a0, a1, a2, a3⟩ := BA7.out.cells4
    by_cases hc : Venn.atomChk ⟨1, l1, l2, 0⟩ = 0
    rotate_left
    focus
      have hcn : (Venn.atomChk ⟨1, l1, l2, 0⟩ != 0) = true := by simpa using hc
      have HE := Lib.hid (show parseAV (some ⟨1, l1, l2, 0⟩) = ⟨0, [], [], 0⟩ from if_neg hc)
      have HC := Lib.hid (show parseAChk (some ⟨1, l1, l2, 0⟩) = Venn.atomChk ⟨1, l1, l2, 0⟩ from rfl)
      clear hc
      generalize Venn.atomChk ⟨1, l1, l2, 0⟩ = E at hcn HC HAT
      go_wp2_with fail
      refine (HAT.out _ (Below.refl _ _)).mono ?_
      rintro e wz ⟨rfl, hbz⟩
      clear a0 a1 a2 a3
      have HBz := Lib.hid (Below.next HB7.out hbz)
      have BRk := BR1.out.keep HBz.out
      have HBk := Below.next HB1.out HBz.out
      obtain ⟨r0, r1, r2, r3⟩ := BRk.cells4
      have q0 := BRk.frozen 0
      have q1 := BRk.frozen 1
      have q2 := BRk.frozen 2
      have q3 := BRk.frozen 3
      have GL := Lib.hid (below_set4 HBk (Nat.le_refl _) (.int .i64 0) (.slice none 0 0) (.slice none 0 0) (.int .i64 0))
      have GS := Lib.hid (BRk.set4 (.int .i64 0) (.slice none 0 0) (.slice none 0 0) (.int .i64 0))
      clear BRk HBk
      go_wp2
      clear r0 r1 r2 r3 q0 q1 q2 q3
      revert GL GS
      generalize World.setCell _ _ _ = Wf
      intro GL GS
      obtain ⟨e0, e1, e2, e3⟩ := GS.out.cells4
      refine bodyPost_ret (v := .tuple #[.agg #[.int .i64 0, .slice none 0 0, .slice none 0 0, .int .i64 0], .int .i64 (E)]) (by simp [results, Tryz.results41, go_sem, e0, e1, e2, e3]) rfl ?_
      rw [HV.out]
      exact ⟨none, 0, 0, none, 0, 0, by rw [HC.out, HE.out], GL.out, by rw [HE.out]; exact IsInts.empty _, by rw [HE.out]; exact IsInts.empty _, fresh_none _ _ _, fresh_none _ _ _⟩
    have HE := Lib.hid (show parseAV (some ⟨1, l1, l2, 0⟩) = ⟨1, l1, l2, 0⟩ from if_pos hc)
    have HC := Lib.hid (show parseAChk (some ⟨1, l1, l2, 0⟩) = 0 from hc)
    rw [hc] at HAT
    clear hc
    go_wp2_with fail
    refine (HAT.out _ (Below.refl _ _)).mono ?_
    rintro e wz ⟨rfl, hbz⟩
    clear a0 a1 a2 a3
    have HBz := Lib.hid (Below.next HB7.out hbz)
    obtain ⟨a0, a1, a2, a3⟩ := (BA7.out.keep hbz).cells4
    have BRk := BR1.out.keep HBz.out
    have HBk := Below.next HB1.out HBz.out
    obtain ⟨r0, r1, r2, r3⟩ := BRk.cells4
    have q0 := BRk.frozen 0
    have q1 := BRk.frozen 1
    have q2 := BRk.frozen 2
    have q3 := BRk.frozen 3
    have GL := Lib.hid (below_set4 HBk (Nat.le_refl _) (.int .i64 1) (.slice S l1.length cS) (.slice T l2.length cT) (.int .i64 0))
    have GS := Lib.hid (BRk.set4 (.int .i64 1) (.slice S l1.length cS) (.slice T l2.length cT) (.int .i64 0))
    have GI := Lib.hid (ints_res (g := w.heap.size) (HI1.out.keep hbz) (fun ad e => by have := HF1.out ad e; have := HW1.out; have := HG1.out; omega) (.int .i64 1) (.slice S l1.length cS) (.slice T l2.length cT) (.int .i64 0))
    have GT := Lib.hid (ints_res (g := w.heap.size) (HI2.out.keep hbz) (fun ad e => by have := HF2.out ad e; have := HW1.out; have := HG2.out; omega) (.int .i64 1) (.slice S l1.length cS) (.slice T l2.length cT) (.int .i64 0))
    have HW3 := Lib.hid (show w.heap.size ≤ w3.heap.size by have := HW1.out; have := HG1.out; omega)
    have HW5 := Lib.hid (show w.heap.size ≤ w5.heap.size by have := HW1.out; have := HG2.out; omega)
    have HW2 := Lib.hid (show w.heap.size ≠ w1.heap.size from Nat.ne_of_lt HW1.out)
    have nW := Nat.ne_of_lt HW1.out
    clear BRk HBk
    go_wp2
    clear a0 a1 a2 a3 r0 r1 r2 r3 q0 q1 q2 q3
    revert GL GS GI GT
    generalize World.setCell _ _ _ = Wf
    intro GL GS GI GT
    obtain ⟨e0, e1, e2, e3⟩ := GS.out.cells4
    refine bodyPost_ret (v := .tuple #[.agg #[.int .i64 1, .slice S l1.length cS, .slice T l2.length cT, .int .i64 0], .int .i64 0]) (by simp [results, Tryz.results41, go_sem, e0, e1, e2, e3]) rfl ?_
    rw [HV.out, HE.out, HC.out]
    exact ⟨_, _, _, _, _, _, rfl, GL.out, GI.out, GT.out, fresh_some HW3.out HF1.out, fresh_some HW5.out HF2.out⟩
  focus
    have hne : ((ws.length : Int) != 3) = true := by simp; omega
    have HN := Lib.hid (HL.out hL)
    clear hL
    have BRk := BR1.out.keep HB3.out
    have HBk := Below.next HB1.out HB3.out
    obtain ⟨r0, r1, r2, r3⟩ := BRk.cells4
    have q0 := BRk.frozen 0
    have q1 := BRk.frozen 1
    have q2 := BRk.frozen 2
    have q3 := BRk.frozen 3
    have GL := Lib.hid (below_set4 HBk (Nat.le_refl _) (.int .i64 0) (.slice none 0 0) (.slice none 0 0) (.int .i64 0))
    have GS := Lib.hid (BRk.set4 (.int .i64 0) (.slice none 0 0) (.slice none 0 0) (.int .i64 0))
    clear BRk HBk
    go_wp2
    clear r0 r1 r2 r3 q0 q1 q2 q3
    revert GL GS
    generalize World.setCell _ _ _ = Wf
    intro GL GS
    obtain ⟨e0, e1, e2, e3⟩ := GS.out.cells4
    refine bodyPost_ret (v := .tuple #[.agg #[.int .i64 0, .slice none 0 0, .slice none 0 0, .int .i64 0], .int .i64 (2)]) (by simp [results, Tryz.results41, go_sem, e0, e1, e2, e3]) rfl ?_
    rw [HN.out]
    exact ⟨none, 0, 0, none, 0, 0, rfl, GL.out, IsInts.empty _, IsInts.empty _, fresh_none _ _ _, fresh_none _ _ _⟩
set_option maxHeartbeats 4000000 in
set_option maxRecDepth 100000 in
theorem refread_2 (s : ByteArray) (w : World) (hs : s.size < 4294967281) (hw0 : wordAt (wordsOf s) 0 = Venn.wordB 2) : Calls Tryz.prog 41 #[.string s] w (AtomGivenRF (parseAV (readST 2 (wordsOf s))) (parseAChk (readST 2 (wordsOf s))) w) := by
  have hX : (wordsOf s).getD 0 ⟨#[]⟩ = ⟨#[115, 97, 109, 101]⟩ := bytes_word hw0
  have HCT := Lib.hid (fun W => ref_Cut32 s W hs)
  have HPOS := Lib.hid (show 0 < (wordsOf s).length by rw [words_len]; omega)
  have hsz := getD_size (words_size hs) (by decide)
  clear hw0 hs
  generalize wordsOf s = ws at hX HCT HPOS hsz ⊢
  have HL := Lib.hid (fun h => readST_len (x := 2) (ws := ws) h)
  have H1 := Lib.hid (fun h => readST_1 (x := 2) (ws := ws) h)
  have H2 := Lib.hid (fun h => readST_2 (x := 2) (ws := ws) h)
  have HOK := Lib.hid (fun (hl : ws.length = 3) (s : List Int) (t : List Int) h1 h2 => readST_ok (x := 2) hl (s := s) (t := t) h1 h2)
  have HR1 := Lib.hid (fun W => ref_ReadTermF (ws.getD 1 ⟨#[]⟩) W (Nat.lt_trans (hsz 1) (by decide)))
  have HR2 := Lib.hid (fun W => ref_ReadTermF (ws.getD 2 ⟨#[]⟩) W (Nat.lt_trans (hsz 2) (by decide)))
  clear hsz
  generalize readST 2 ws = O at H1 H2 HOK HL ⊢
  have hal0 : Below w.heap.size w (w.alloc (.cells #[.int .i64 0, .slice none 0 0, .slice none 0 0, .int .i64 0] 32)) := by (repeat' (first | (with_reducible exact Below.refl _ _) | (with_reducible assumption) | (with_reducible refine Below.next ?_ (by with_reducible assumption)) | (with_reducible refine Below.drew ?_) | (with_reducible refine Below.laid ?_ _) | (with_reducible refine Below.setCell ?_ ?_ _) | (with_reducible refine size_of ?_) | (with_reducible refine Nat.le_succ_of_le ?_) | go_size))
  have BR0 := Lib.hid (Blk.new w 32 #[.int .i64 0, .slice none 0 0, .slice none 0 0, .int .i64 0])
  have hz : (w.alloc (.cells #[.int .i64 0, .slice none 0 0, .slice none 0 0, .int .i64 0] 32)).heap.size = w.heap.size + 1 := by simp
  go_enter Tryz.func41, Tryz.ntmps41
  go_upto_region 1 with (fail)
  revert hal0 BR0 hz
  generalize w.alloc (.cells #[.int .i64 0, .slice none 0 0, .slice none 0 0, .int .i64 0] 32) = w0
  intro hal0 BR0 hz
  have HZ := Lib.hid hz
  have HB0 := Lib.hid hal0
  clear hal0 hz
  go_wp2_with fail
  refine (HCT.out w0).mono ?_
  rintro e w1 ⟨v, rfl, hb1, A, cA, hv, hr, hc1, hc2⟩
  have HB1 := Lib.hid (Below.next HB0.out hb1)
  have BR1 := Lib.hid (BR0.out.keep hb1)
  have HW1 := Lib.hid (show w.heap.size < w1.heap.size from BR1.out.lt)
  obtain ⟨ad, rfl, hx0⟩ := strs_at hr HPOS.out
  have HRR := Lib.hid (show ∀ k, k < ws.length → w1.cell? (ad.add k) = some (.string (ws.getD k ⟨#[]⟩)) from fun k hk => by obtain ⟨a2, e, h⟩ := strs_at hr hk; cases e; exact h)
  clear hr hc1 hc2 hb1 BR0
  have BA2 := Blk.new w1 32 #[.int .i64 0, .slice none 0 0, .slice none 0 0, .int .i64 0]
  have hb2 : Below w1.heap.size w1 (w1.alloc (.cells #[.int .i64 0, .slice none 0 0, .slice none 0 0, .int .i64 0] 32)) := (Below.refl _ _).alloc (Nat.le_refl _) _
  subst hv
  go_upto_region 3 with (fail)
  revert BA2 hb2
  generalize w1.alloc (.cells #[.int .i64 0, .slice none 0 0, .slice none 0 0, .int .i64 0] 32) = w2
  intro BA2 hb2
  have x0 := cell_keep hb2 hx0
  have x0' : w2.cell? ad = some (.string (ws.getD 0 ⟨#[]⟩)) := by have := x0; rwa [add_zero] at this
  clear hx0
  rw [hX] at x0 x0'
  obtain ⟨a0, a1, a2, a3⟩ := BA2.cells4
  have f0 := BA2.frozen 0
  have BA3 := Lib.hid (set4_1 BA2 (.int .i64 2))
  have HB3 := Lib.hid (hb2.setCell (p := ⟨w1.heap.size, 0, none⟩) (Nat.le_refl _) (.int .i64 2))
  generalize hX1 : ws.getD 1 ⟨#[]⟩ = X1 at H1 HOK HR1
  generalize hX2 : ws.getD 2 ⟨#[]⟩ = X2 at H2 HOK HR2
  have HX1 := Lib.hid hX1
  clear hX1
  have HX2 := Lib.hid hX2
  clear hX2
  clear BA2 hb2
  go_upto_region 15 with (fail)
  clear a0 a1 a2 a3 f0 x0 x0' hX
  revert BA3 HB3
  generalize World.setCell _ _ _ = w3
  intro BA3 HB3
  have HLA := Lib.hid BA3.out.lt
  have a0 : w3.cell? ⟨w1.heap.size, 0, none⟩ = some (.int .i64 2) := BA3.out.cell 0
  by_cases hL : ws.length = 3
  focus
    rw [hL]
    have X1c := Lib.hid (show w1.cell? (ad.add 1) = some (.string X1) by have := HRR.out 1 (by omega); rwa [HX1.out] at this)
    have X2c := Lib.hid (show w1.cell? (ad.add 2) = some (.string X2) by have := HRR.out 2 (by omega); rwa [HX2.out] at this)
    have HLN := Lib.hid hL
    clear hL
    have x1 : w3.cell? ⟨ad.block, ad.off + 1, none⟩ = some (.string X1) := cell_keep HB3.out X1c.out
    go_wp2_with fail
    refine (HR1.out w3).mono ?_
    rintro e w4 ⟨v1, b1, rfl, hb4, hcase⟩
    have HB4 := Lib.hid (Below.next HB3.out hb4)
    have BA4 := Lib.hid (BA3.out.keep hb4)
    clear a0 x1
    rcases hcase with ⟨l1, h1, rfl, hI, hF⟩ | ⟨h1, rfl, rfl⟩
    rotate_left
    focus
      have HN := Lib.hid (H1.out h1)
      have BRk := BR1.out.keep HB4.out
      have HBk := Below.next HB1.out HB4.out
      obtain ⟨r0, r1, r2, r3⟩ := BRk.cells4
      have q0 := BRk.frozen 0
      have q1 := BRk.frozen 1
      have q2 := BRk.frozen 2
      have q3 := BRk.frozen 3
      have GL := Lib.hid (below_set4 HBk (Nat.le_refl _) (.int .i64 0) (.slice none 0 0) (.slice none 0 0) (.int .i64 0))
      have GS := Lib.hid (BRk.set4 (.int .i64 0) (.slice none 0 0) (.slice none 0 0) (.int .i64 0))
      clear BRk HBk
      go_wp2
      clear r0 r1 r2 r3 q0 q1 q2 q3
      revert GL GS
      generalize World.setCell _ _ _ = Wf
      intro GL GS
      obtain ⟨e0, e1, e2, e3⟩ := GS.out.cells4
      refine bodyPost_ret (v := .tuple #[.agg #[.int .i64 0, .slice none 0 0, .slice none 0 0, .int .i64 0], .int .i64 (2)]) (by simp [results, Tryz.results41, go_sem, e0, e1, e2, e3]) rfl ?_
      rw [HN.out]
      exact ⟨none, 0, 0, none, 0, 0, rfl, GL.out, IsInts.empty _, IsInts.empty _, fresh_none _ _ _, fresh_none _ _ _⟩
    obtain ⟨S, cS, rfl, _⟩ := id hI
    have HK1 := Lib.hid h1
    have HI1 := Lib.hid (ints_fresh hI hF (show w1.heap.size < w3.heap.size from BA3.out.lt) 1 (.slice S l1.length cS))
    have HF1 := Lib.hid (show ∀ ad, S = some ad → w3.heap.size ≤ ad.block from fun ad e => hF ad _ _ (by rw [e]))
    have HE1 := Lib.hid (show FreshV w3 (.slice S l1.length cS) from hF)
    have HG1 := Lib.hid (show w1.heap.size < w3.heap.size from BA3.out.lt)
    clear hI hF h1 hb4
    have aT : w4.cell? ⟨w1.heap.size, 1, none⟩ = some (.slice none 0 0) := BA4.out.cell 1
    have fT := BA4.out.frozen 1
    have BB := Lib.hid (set4_2 BA4.out (.slice S l1.length cS))
    have HBB := Lib.hid ((HB4.out).setCell (p := ⟨w1.heap.size, 1, none⟩) (Nat.le_refl _) (.slice S l1.length cS))
    go_upto_region 24 with (fail)
    clear aT fT
    revert HI1 BB HBB
    generalize World.setCell _ _ _ = w5
    intro HI1 BA5 HB5
    have a0 : w5.cell? ⟨w1.heap.size, 0, none⟩ = some (.int .i64 2) := BA5.out.cell 0
    have x2 : w5.cell? ⟨ad.block, ad.off + 2, none⟩ = some (.string X2) := cell_keep HB5.out X2c.out
    go_wp2_with fail
    refine (HR2.out w5).mono ?_
    rintro e w6 ⟨v2, b2, rfl, hb6, hcase⟩
    have HB6 := Lib.hid (Below.next HB5.out hb6)
    have BA6 := Lib.hid (BA5.out.keep hb6)
    clear a0 x2
    rcases hcase with ⟨l2, h2, rfl, hI, hF⟩ | ⟨h2, rfl, rfl⟩
    rotate_left
    focus
      have HN := Lib.hid (H2.out h2)
      have BRk := BR1.out.keep HB6.out
      have HBk := Below.next HB1.out HB6.out
      obtain ⟨r0, r1, r2, r3⟩ := BRk.cells4
      have q0 := BRk.frozen 0
      have q1 := BRk.frozen 1
      have q2 := BRk.frozen 2
      have q3 := BRk.frozen 3
      have GL := Lib.hid (below_set4 HBk (Nat.le_refl _) (.int .i64 0) (.slice none 0 0) (.slice none 0 0) (.int .i64 0))
      have GS := Lib.hid (BRk.set4 (.int .i64 0) (.slice none 0 0) (.slice none 0 0) (.int .i64 0))
      clear BRk HBk
      go_wp2
      clear r0 r1 r2 r3 q0 q1 q2 q3
      revert GL GS
      generalize World.setCell _ _ _ = Wf
      intro GL GS
      obtain ⟨e0, e1, e2, e3⟩ := GS.out.cells4
      refine bodyPost_ret (v := .tuple #[.agg #[.int .i64 0, .slice none 0 0, .slice none 0 0, .int .i64 0], .int .i64 (2)]) (by simp [results, Tryz.results41, go_sem, e0, e1, e2, e3]) rfl ?_
      rw [HN.out]
      exact ⟨none, 0, 0, none, 0, 0, rfl, GL.out, IsInts.empty _, IsInts.empty _, fresh_none _ _ _, fresh_none _ _ _⟩
    obtain ⟨T, cT, rfl, _⟩ := id hI
    have HK2 := Lib.hid h2
    have HI2 := Lib.hid (ints_fresh hI hF (show w1.heap.size < w5.heap.size from BA5.out.lt) 2 (.slice T l2.length cT))
    have HF2 := Lib.hid (show ∀ ad, T = some ad → w5.heap.size ≤ ad.block from fun ad e => hF ad _ _ (by rw [e]))
    have HE2 := Lib.hid (show FreshV w5 (.slice T l2.length cT) from hF)
    have HJ1 := Lib.hid (ints_fresh (HI1.out.keep hb6) HE1.out (show w1.heap.size < w3.heap.size from HG1.out) 2 (.slice T l2.length cT))
    clear HI1
    have HG2 := Lib.hid (show w1.heap.size < w5.heap.size from BA5.out.lt)
    clear hI hF h2 hb6
    have aT : w6.cell? ⟨w1.heap.size, 2, none⟩ = some (.slice none 0 0) := BA6.out.cell 2
    have fT := BA6.out.frozen 2
    have BB := Lib.hid (set4_3 BA6.out (.slice T l2.length cT))
    have HBB := Lib.hid ((HB6.out).setCell (p := ⟨w1.heap.size, 2, none⟩) (Nat.le_refl _) (.slice T l2.length cT))
    go_upto_region 29 with (fail)
    clear aT fT
    revert HI2 HJ1 BB HBB
    generalize World.setCell _ _ _ = w7
    intro HI2 HI1 BA7 HB7
    have a0 : w7.cell? ⟨w1.heap.size, 0, none⟩ = some (.int .i64 2) := BA7.out.cell 0
    clear a0
    have HV := Lib.hid (HOK.out HLN.out l1 l2 HK1.out HK2.out)
    have HAT := Lib.hid (fun W (hW : Below w7.heap.size w7 W) => ref_Atom 2 (0) (.slice S l1.length cS) (.slice T l2.length cT) l1 l2 W (HI1.out.keep hW) (HI2.out.keep hW))
    obtain ⟨a0, a1, a2, a3⟩ := BA7.out.cells4
    by_cases hc : Venn.atomChk ⟨2, l1, l2, 0⟩ = 0
    rotate_left
    focus
      have hcn : (Venn.atomChk ⟨2, l1, l2, 0⟩ != 0) = true := by simpa using hc
      have HE := Lib.hid (show parseAV (some ⟨2, l1, l2, 0⟩) = ⟨0, [], [], 0⟩ from if_neg hc)
      have HC := Lib.hid (show parseAChk (some ⟨2, l1, l2, 0⟩) = Venn.atomChk ⟨2, l1, l2, 0⟩ from rfl)
      clear hc
      generalize Venn.atomChk ⟨2, l1, l2, 0⟩ = E at hcn HC HAT
      go_wp2_with fail
      refine (HAT.out _ (Below.refl _ _)).mono ?_
      rintro e wz ⟨rfl, hbz⟩
      clear a0 a1 a2 a3
      have HBz := Lib.hid (Below.next HB7.out hbz)
      have BRk := BR1.out.keep HBz.out
      have HBk := Below.next HB1.out HBz.out
      obtain ⟨r0, r1, r2, r3⟩ := BRk.cells4
      have q0 := BRk.frozen 0
      have q1 := BRk.frozen 1
      have q2 := BRk.frozen 2
      have q3 := BRk.frozen 3
      have GL := Lib.hid (below_set4 HBk (Nat.le_refl _) (.int .i64 0) (.slice none 0 0) (.slice none 0 0) (.int .i64 0))
      have GS := Lib.hid (BRk.set4 (.int .i64 0) (.slice none 0 0) (.slice none 0 0) (.int .i64 0))
      clear BRk HBk
      go_wp2
      clear r0 r1 r2 r3 q0 q1 q2 q3
      revert GL GS
      generalize World.setCell _ _ _ = Wf
      intro GL GS
      obtain ⟨e0, e1, e2, e3⟩ := GS.out.cells4
      refine bodyPost_ret (v := .tuple #[.agg #[.int .i64 0, .slice none 0 0, .slice none 0 0, .int .i64 0], .int .i64 (E)]) (by simp [results, Tryz.results41, go_sem, e0, e1, e2, e3]) rfl ?_
      rw [HV.out]
      exact ⟨none, 0, 0, none, 0, 0, by rw [HC.out, HE.out], GL.out, by rw [HE.out]; exact IsInts.empty _, by rw [HE.out]; exact IsInts.empty _, fresh_none _ _ _, fresh_none _ _ _⟩
    have HE := Lib.hid (show parseAV (some ⟨2, l1, l2, 0⟩) = ⟨2, l1, l2, 0⟩ from if_pos hc)
    have HC := Lib.hid (show parseAChk (some ⟨2, l1, l2, 0⟩) = 0 from hc)
    rw [hc] at HAT
    clear hc
    go_wp2_with fail
    refine (HAT.out _ (Below.refl _ _)).mono ?_
    rintro e wz ⟨rfl, hbz⟩
    clear a0 a1 a2 a3
    have HBz := Lib.hid (Below.next HB7.out hbz)
    obtain ⟨a0, a1, a2, a3⟩ := (BA7.out.keep hbz).cells4
    have BRk := BR1.out.keep HBz.out
    have HBk := Below.next HB1.out HBz.out
    obtain ⟨r0, r1, r2, r3⟩ := BRk.cells4
    have q0 := BRk.frozen 0
    have q1 := BRk.frozen 1
    have q2 := BRk.frozen 2
    have q3 := BRk.frozen 3
    have GL := Lib.hid (below_set4 HBk (Nat.le_refl _) (.int .i64 2) (.slice S l1.length cS) (.slice T l2.length cT) (.int .i64 0))
    have GS := Lib.hid (BRk.set4 (.int .i64 2) (.slice S l1.length cS) (.slice T l2.length cT) (.int .i64 0))
    have GI := Lib.hid (ints_res (g := w.heap.size) (HI1.out.keep hbz) (fun ad e => by have := HF1.out ad e; have := HW1.out; have := HG1.out; omega) (.int .i64 2) (.slice S l1.length cS) (.slice T l2.length cT) (.int .i64 0))
    have GT := Lib.hid (ints_res (g := w.heap.size) (HI2.out.keep hbz) (fun ad e => by have := HF2.out ad e; have := HW1.out; have := HG2.out; omega) (.int .i64 2) (.slice S l1.length cS) (.slice T l2.length cT) (.int .i64 0))
    have HW3 := Lib.hid (show w.heap.size ≤ w3.heap.size by have := HW1.out; have := HG1.out; omega)
    have HW5 := Lib.hid (show w.heap.size ≤ w5.heap.size by have := HW1.out; have := HG2.out; omega)
    have HW2 := Lib.hid (show w.heap.size ≠ w1.heap.size from Nat.ne_of_lt HW1.out)
    have nW := Nat.ne_of_lt HW1.out
    clear BRk HBk
    go_wp2
    clear a0 a1 a2 a3 r0 r1 r2 r3 q0 q1 q2 q3
    revert GL GS GI GT
    generalize World.setCell _ _ _ = Wf
    intro GL GS GI GT
    obtain ⟨e0, e1, e2, e3⟩ := GS.out.cells4
    refine bodyPost_ret (v := .tuple #[.agg #[.int .i64 2, .slice S l1.length cS, .slice T l2.length cT, .int .i64 0], .int .i64 0]) (by simp [results, Tryz.results41, go_sem, e0, e1, e2, e3]) rfl ?_
    rw [HV.out, HE.out, HC.out]
    exact ⟨_, _, _, _, _, _, rfl, GL.out, GI.out, GT.out, fresh_some HW3.out HF1.out, fresh_some HW5.out HF2.out⟩
  focus
    have hne : ((ws.length : Int) != 3) = true := by simp; omega
    have HN := Lib.hid (HL.out hL)
    clear hL
    have BRk := BR1.out.keep HB3.out
    have HBk := Below.next HB1.out HB3.out
    obtain ⟨r0, r1, r2, r3⟩ := BRk.cells4
    have q0 := BRk.frozen 0
    have q1 := BRk.frozen 1
    have q2 := BRk.frozen 2
    have q3 := BRk.frozen 3
    have GL := Lib.hid (below_set4 HBk (Nat.le_refl _) (.int .i64 0) (.slice none 0 0) (.slice none 0 0) (.int .i64 0))
    have GS := Lib.hid (BRk.set4 (.int .i64 0) (.slice none 0 0) (.slice none 0 0) (.int .i64 0))
    clear BRk HBk
    go_wp2
    clear r0 r1 r2 r3 q0 q1 q2 q3
    revert GL GS
    generalize World.setCell _ _ _ = Wf
    intro GL GS
    obtain ⟨e0, e1, e2, e3⟩ := GS.out.cells4
    refine bodyPost_ret (v := .tuple #[.agg #[.int .i64 0, .slice none 0 0, .slice none 0 0, .int .i64 0], .int .i64 (2)]) (by simp [results, Tryz.results41, go_sem, e0, e1, e2, e3]) rfl ?_
    rw [HN.out]
    exact ⟨none, 0, 0, none, 0, 0, rfl, GL.out, IsInts.empty _, IsInts.empty _, fresh_none _ _ _, fresh_none _ _ _⟩
end Go.Proofs.YtcloppcekbdbaaaGreatDoor

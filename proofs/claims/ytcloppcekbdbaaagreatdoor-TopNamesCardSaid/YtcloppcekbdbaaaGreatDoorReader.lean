/-
  THE WALKS of atom's reader of words.
-/
import Derived.Test.YtcloppcekbdbaaaGreatDoorAtoi
import Derived.Test.YtcloppcekbdbaaaGreatDoorText
import Derived.Test.YtcloppcekbdbaaaGreatDoorSetsT
namespace Go.Proofs.YtcloppcekbdbaaaGreatDoor
open Go.RowKit Go.ChangeShapes

theorem gr_trans {a b c : World} {r : Option Nat} (h : a.grownBy b r) (k : b.grownBy c r) : a.grownBy c r :=
  ⟨k.os.trans h.os, k.tape.trans h.tape, k.output.trans h.output, Nat.le_trans h.size k.size, fun g hg hr => (k.block g (Nat.lt_of_lt_of_le hg h.size) hr).trans (h.block g hg hr)⟩
theorem gr_below {a b : World} (h : Below a.heap.size a b) (r : Option Nat) : a.grownBy b r := ⟨h.os, h.tape, h.output, h.size, fun g hg _ => h.block g hg⟩
theorem gr_set (w : World) (g i : Nat) (u : Value) : w.grownBy (w.setCell ⟨g, i, none⟩ u) (some g) :=
  ⟨rfl, rfl, rfl, by simp [World.setCell], fun k _ hk => Below.heap_setCell _ _ _ _ (fun e => hk (by rw [e]))⟩
/-- The words lie in block B. -/
def WordsAt (w : World) (B : Nat) (all : List ByteArray) : Prop := ∀ (j : Nat) x, all[j]? = some x → w.cell? ⟨B, j, none⟩ = some (.string x)
/-- The reader stands behind k words; its block is the first one behind W0. -/
def RdW (W0 w : World) (B : Nat) (all : List ByteArray) (k : Nat) (is : Bool) : Prop :=
  Below W0.heap.size W0 w ∧ ∃ P c, Blk w W0.heap.size 178 #[.slice P (all.length - k) c, .bool is] ∧ (k < all.length → P = some ⟨B, k, none⟩) ∧ all.length - k ≤ c ∧ c ≤ maxLen
set_option maxHeartbeats 2000000 in
set_option maxRecDepth 100000 in
theorem reader_next (W0 w : World) (B : Nat) (all : List ByteArray) (k : Nat) (is : Bool) (hw : WordsAt W0 B all) (h : RdW W0 w B all k is) :
    Calls Tryz.prog 130 #[.pointer (some ⟨W0.heap.size, 0, none⟩)] w (fun e w' => e = .returned (.string (all.getD k ⟨#[]⟩)) ∧ RdW W0 w' B all (k + 1) (is && decide (k < all.length)) ∧ w.grownBy w' (some W0.heap.size)) := by
  obtain ⟨hb, P, c, hB, hP, hc, hm⟩ := h
  have c0 : w.cell? ⟨W0.heap.size, 0, none⟩ = some (.slice P (all.length - k) c) := hB.cell 0
  have c1 : w.cell? ⟨W0.heap.size, 1, none⟩ = some (.bool is) := hB.cell 1
  have f0 := hB.frozen 0
  have f1 := hB.frozen 1
  by_cases hk : k < all.length
  · obtain rfl := hP hk
    have hx : w.cell? ⟨B, k, none⟩ = some (.string (all.getD k ⟨#[]⟩)) := by
      refine cell_keep hb (hw k _ ?_)
      rw [List.getD, List.getElem?_eq_getElem hk]; rfl
    generalize hX : all.getD k ⟨#[]⟩ = X at hx ⊢
    have hn : all.length - k = (all.length - (k + 1)) + 1 := by omega
    have hd : decide (k < all.length) = true := decide_eq_true hk
    rw [hd, Bool.and_true]
    have BN := Lib.hid hB
    have HB := Lib.hid hb
    clear hB hw hb hX hd hP
    have hN : (all.length - (k + 1)) + 1 ≤ c := by omega
    clear hc
    rw [hn] at c0
    clear hn
    generalize hNN : all.length - (k + 1) = N at c0 hN
    have HNN := Lib.hid hNN
    have HK := Lib.hid hk
    clear hNN hk
    by_cases hc1 : c = 1
    · subst hc1
      obtain rfl : N = 0 := by omega
      go_enter Tryz.func130, Tryz.ntmps130
      go_wp2
      go_ret
      refine ⟨rfl, ⟨HB.out.setCell (Nat.le_refl _) _, some ⟨B, k, none⟩, 0, ?_, ?_, ?_, by simp⟩, gr_set _ _ _ _⟩
      · rw [HNN.out]; exact BN.out.set_ 0 _
      · intro h; have := HNN.out; omega
      · rw [HNN.out]; omega
    · go_enter Tryz.func130, Tryz.ntmps130
      go_wp2
      go_ret
      refine ⟨rfl, ⟨HB.out.setCell (Nat.le_refl _) _, some ⟨B, k + 1, none⟩, c - 1, ?_, fun _ => rfl, ?_, by omega⟩, gr_set _ _ _ _⟩
      · rw [HNN.out]; exact BN.out.set_ 0 _
      · rw [HNN.out]; omega
  · have hz : all.length - k = 0 := by omega
    have hz1 : all.length - (k + 1) = 0 := by omega
    have hd : decide (k < all.length) = false := decide_eq_false hk
    have hg : all.getD k ⟨#[]⟩ = ⟨#[]⟩ := by rw [List.getD, List.getElem?_eq_none (by omega)]; rfl
    rw [hd, Bool.and_false, hg]
    rw [hz] at c0
    have BN := Lib.hid hB
    have HB := Lib.hid hb
    have HZ := Lib.hid hz
    have HZ1 := Lib.hid hz1
    have HK := Lib.hid hk
    clear hB hw hb hz hz1 hd hg hP hc hk
    go_enter Tryz.func130, Tryz.ntmps130
    go_wp2
    go_ret
    refine ⟨rfl, ⟨HB.out.setCell (Nat.le_refl _) _, P, c, ?_, ?_, ?_, hm⟩, gr_set _ _ _ _⟩
    · have := BN.out.set_ 1 (.bool false)
      rw [HZ.out] at this
      rw [HZ1.out]; exact this
    · intro h; have := HK.out; omega
    · rw [HZ1.out]; omega
theorem rd_block {w : World} {g : Nat} {t : TypeId} {a : Addr} {k : IntKind} {x : Int} {A : Option Addr} {n c : Nat} {b : Bool} (hB : Blk w g t #[.slice A n c, .bool b]) (h : w.cell? a = some (.int k x)) : g ≠ a.block := by
  intro e
  unfold World.cell? at h
  rw [← e, show w.heap[g]? = some (.cells #[.slice A n c, .bool b] t (0, 0)) from hB] at h
  simp only at h
  split at h
  · cases h
  · rcases ho : a.off with _ | _ | n
    · rw [ho] at h; simp at h
    · rw [ho] at h; simp at h
    · rw [ho] at h; simp at h
theorem ints_far {w : World} {v : Value} {l : List Int} {g : Nat} (h : IsInts w v l) (hn : ∀ (a : Addr) (x : Int), w.cell? a = some (.int .i64 x) → g ≠ a.block) (i : Nat) (u : Value) : IsInts (w.setCell ⟨g, i, none⟩ u) v l := by
  obtain ⟨A, c, hv, hr, hc⟩ := h
  refine ⟨A, c, hv, fun j x hj => ?_, hc⟩
  obtain ⟨ad, e, h⟩ := hr j x hj
  obtain ⟨z, rfl⟩ : ∃ z, x = .int .i64 z := by
    rw [List.getElem?_map] at hj
    obtain ⟨z, _, rfl⟩ := Option.map_eq_some_iff.1 hj
    exact ⟨z, rfl⟩
  exact ⟨ad, e, by rw [World.cell?_setCell_far _ ⟨g, i, none⟩ _ _ (hn _ _ h)]; exact h⟩
/-- A slice's row lies behind w. -/
def FreshV (w : World) (v : Value) : Prop := ∀ A n c, v = .slice (some A) n c → w.heap.size ≤ A.block
theorem fresh_of_own {w w0 : World} {e : TypeId} {size : Nat} {v : Value} {n : Nat} {xs : List Value} (h : w.ownsRow w0.heap.size e size v n xs) : FreshV w0 v := by
  intro A m c hv
  rcases h.2 with ⟨h1, _⟩ | ⟨g, cap, cur, h1, hb, _⟩
  · rw [hv] at h1; cases h1
  · rw [hv] at h1; cases h1; exact hb
/-- What term.Read gives, its row behind all there was. -/
def ReadPostF (s : ByteArray) (w : World) (e : Ending) (w' : World) : Prop :=
  ∃ v b, e = .returned (.tuple #[v, .bool b]) ∧ Below w.heap.size w w' ∧ ((∃ l, readT s.data.toList = some l ∧ b = true ∧ IsInts w' v l ∧ FreshV w v) ∨ (readT s.data.toList = none ∧ b = false ∧ v = .slice none 0 0))
set_option maxHeartbeats 1000000 in
set_option maxRecDepth 100000 in
theorem term_ReadF (s : ByteArray) (w : World) (hs : s.size < 1099511627776) :
    Calls Tryz.prog 162 #[.string s] w (ReadPostF s w) := by
  go_enter Tryz.func162, Tryz.ntmps162
  go_wp2
  go_loopw [4, 9] (fun v i wr => ∃ (k : Nat) (pre : List Int), k ≤ s.size ∧ i = .int .i64 k ∧ pre.length = k ∧ wr.ownsRow w.heap.size 3 1 v k (pre.map (Value.int .i64)) ∧ Below w.heap.size w wr ∧ readT s.data.toList = (readT (s.data.toList.drop k)).map (pre ++ ·))
    (fun _ i _ => s.size - (intOf i).toNat)
  case atStart => exact ⟨0, [], Nat.zero_le _, rfl, rfl, World.ownsRow_nil _ _ _ _, by (repeat' (first | (with_reducible exact Below.refl _ _) | (with_reducible assumption) | (with_reducible refine Below.next ?_ (by with_reducible assumption)) | (with_reducible refine Below.drew ?_) | (with_reducible refine Below.laid ?_ _) | (with_reducible refine Below.setCell ?_ ?_ _) | (with_reducible refine size_of ?_) | (with_reducible refine Nat.le_succ_of_le ?_) | go_size)), by simp⟩
  case round =>
    obtain ⟨k, pre, hk, rfl, hpl, hown, hb, hrest⟩ := hrel
    obtain ⟨wo, rfl⟩ : ∃ wo : World, wo = wr := ⟨_, rfl⟩
    obtain ⟨A5, cp5, rfl⟩ := ownsRow_slice hown
    have HR := Lib.hid hrest
    have HPL := Lib.hid hpl
    clear hrest hpl
    by_cases hlt : k < s.size
    · have hk1 : (k : Int) < (s.size : Int) := by omega
      have hk0 : (0 : Int) ≤ (k : Int) := by omega
      have HD := Lib.hid (drop_bytes s k hlt)
      have hsb := signOf_bound s[k]
      have HSB := Lib.hid (signOf_byte s[k])
      by_cases hneg : signOf s[k] < 0
      · have HV := Lib.hid (show readT s.data.toList = none by rw [HR.out, HD.out, readT, if_pos hneg]; rfl)
        generalize signOf s[k] = sg at hneg hsb HSB
        go_wp2_with (go_at_call 183; refine (strings_IndexByte _ _ _).mono ?_; rintro e w' ⟨rfl, rfl⟩; rw [HSB.out])
        go_ret2
        exact ⟨_, _, rfl, hb, .inr ⟨HV.out, rfl, rfl⟩⟩
      · have HV := Lib.hid (show readT s.data.toList = (readT (s.data.toList.drop (k + 1))).map ((pre ++ [signOf s[k]]) ++ ·) by
          rw [HR.out, HD.out, readT, if_neg hneg, Option.map_map]
          congr 1
          funext x
          simp)
        generalize signOf s[k] = sg at hneg hsb HSB HV
        go_wp2_with (first
          | (go_at_call 183; refine (strings_IndexByte _ _ _).mono ?_; rintro e w' ⟨rfl, rfl⟩; rw [HSB.out])
          | (at_builtin; refine wpList_app1 _ rfl _ _ rfl w.heap.size _ _ _ rfl (hown.alloc _) wo.heap.size 1 sg rfl ?hy1 (by omega) (by have := hb.size; simp; omega) ?_))
        try case hy1 => simp
        intro v' w1 hown' hg'
        go_wp2
        go_roundw
        case rel =>
          refine ⟨k + 1, pre ++ [sg], by omega, by go_num, by simp [HPL.out], by simpa using hown', ?_, HV.out⟩
          have hbs := hb.size
          exact (hb.alloc hbs _).grown hg' (by simp; omega) (fun g h => (hown.lt g h).1)
        case measure => simp [intOf]; omega
    · have hk1 : ¬ (k : Int) < (s.size : Int) := by omega
      have hd : s.data.toList.drop k = [] := List.drop_eq_nil_of_le (by simp; omega)
      have HV := Lib.hid (show readT s.data.toList = some pre by rw [HR.out, hd]; simp [readT])
      clear hd
      go_wp2
      go_ret2
      exact ⟨_, _, rfl, hb, .inl ⟨pre, HV.out, rfl, IsInts.of_own hown, fresh_of_own hown⟩⟩

/-- The word that is next, and whether there is one. -/
def wordAt (all : List ByteArray) (k : Nat) : List UInt8 := (all.getD k ⟨#[]⟩).data.toList
def isTerm (all : List ByteArray) (k : Nat) : Bool := decide (k < all.length) && (readT (wordAt all k)).isSome
def isNum (all : List ByteArray) (k : Nat) : Bool := decide (k < all.length) && (numO (wordAt all k)).isSome
set_option maxHeartbeats 2000000 in
set_option maxRecDepth 100000 in
theorem reader_term (W0 w : World) (B : Nat) (all : List ByteArray) (k : Nat) (is : Bool) (hw : WordsAt W0 B all) (h : RdW W0 w B all k is) (hs : ∀ x ∈ all, x.size < 1099511627776) :
    Calls Tryz.prog 131 #[.pointer (some ⟨W0.heap.size, 0, none⟩)] w (fun e w' => ∃ A n c, e = .returned (.slice A n c) ∧ RdW W0 w' B all (k + 1) (is && isTerm all k) ∧ (isTerm all k = true → IsInts w' (.slice A n c) ((readT (wordAt all k)).getD [])) ∧ FreshV w (.slice A n c) ∧ w.grownBy w' (some W0.heap.size)) := by
  have hsz : (all.getD k ⟨#[]⟩).size < 1099511627776 := by
    by_cases hk : k < all.length
    · rw [List.getD, List.getElem?_eq_getElem hk]; exact hs _ (List.getElem_mem hk)
    · rw [List.getD, List.getElem?_eq_none (by omega)]; decide
  have HN := Lib.hid (reader_next W0 w B all k is hw h)
  have HR := Lib.hid (fun w => term_ReadF (all.getD k ⟨#[]⟩) w hsz)
  clear h hs hsz hw
  go_enter Tryz.func131, Tryz.ntmps131
  go_wp2_with fail
  refine (HN.out).mono ?_
  rintro e w1 ⟨rfl, hR1, hg1⟩
  have HG1 := Lib.hid hg1
  clear hg1
  go_wp2_with fail
  refine (HR.out w1).mono ?_
  rintro e w2 ⟨v, b, rfl, hb2, hcase⟩
  have HG2 := Lib.hid (gr_trans HG1.out (gr_below hb2 _))
  have HGS := Lib.hid HG1.out.size
  clear HG1
  obtain ⟨hb1, P, c, hB, hP, hc, hm⟩ := hR1
  have HB2 := Lib.hid (Below.next hb1 hb2)
  have hB2 := hB.keep hb2
  obtain ⟨A, n, cp, rfl, hF, hbT, hI⟩ : ∃ A n cp, v = .slice A n cp ∧ FreshV w v ∧ (is && isTerm all k) = ((is && decide (k < all.length)) && b) ∧ (isTerm all k = true → IsInts w2 v ((readT (wordAt all k)).getD [])) := by
    rcases hcase with ⟨l, h1, rfl, hI, hF⟩ | ⟨h1, rfl, rfl⟩
    · have hI' := hI
      obtain ⟨A, cc, rfl, _⟩ := hI
      have h1' : readT (wordAt all k) = some l := h1
      exact ⟨A, _, cc, rfl, fun A n c hv => Nat.le_trans HGS.out (hF A n c hv), by simp [isTerm, h1'], fun _ => by rw [h1']; exact hI'⟩
    · have h1' : readT (wordAt all k) = none := h1
      exact ⟨_, _, _, rfl, fun _ _ _ hv => (by cases hv), by simp [isTerm, h1'], fun h => by simp [isTerm, h1'] at h⟩
  have HBT := Lib.hid hbT
  clear hcase hbT
  have HI := Lib.hid hI
  have HF := Lib.hid hF
  have HP := Lib.hid hP
  have HC := Lib.hid hc
  have HM := Lib.hid hm
  clear hI hF HGS hP hc hm hB hb1 hb2 HN HR
  generalize (is && decide (k < all.length)) = a at hB2 HBT
  have c1 : w2.cell? ⟨W0.heap.size, 1, none⟩ = some (.bool a) := hB2.cell 1
  have f1 := hB2.frozen 1
  have BN := Lib.hid hB2
  clear hB2
  cases a <;> cases b
  all_goals
    go_wp2
    go_ret
    refine ⟨_, _, _, rfl, ?_, fun h => ints_far (HI.out h) (fun a x h => rd_block BN.out h) 1 _, HF.out, gr_trans HG2.out (gr_set _ _ _ _)⟩
    rw [HBT.out]
    exact ⟨HB2.out.setCell (Nat.le_refl _) _, P, c, BN.out.set_ 1 _, HP.out, HC.out, HM.out⟩
set_option maxHeartbeats 2000000 in
set_option maxRecDepth 100000 in
theorem reader_number (W0 w : World) (B : Nat) (all : List ByteArray) (k : Nat) (is : Bool) (hw : WordsAt W0 B all) (h : RdW W0 w B all k is) (hs : ∀ x ∈ all, x.size ≤ 281474976710656) (ht : TabOk W0) (he : ErrsOk W0) :
    Calls Tryz.prog 132 #[.pointer (some ⟨W0.heap.size, 0, none⟩)] w (fun e w' => ∃ m, e = .returned (.int .i64 m) ∧ RdW W0 w' B all (k + 1) (is && isNum all k) ∧ (isNum all k = true → m = (numO (wordAt all k)).getD 0) ∧ w.grownBy w' (some W0.heap.size)) := by
  have hsz : (all.getD k ⟨#[]⟩).size ≤ 281474976710656 := by
    by_cases hk : k < all.length
    · rw [List.getD, List.getElem?_eq_getElem hk]; exact hs _ (List.getElem_mem hk)
    · rw [List.getD, List.getElem?_eq_none (by omega)]; decide
  have HN := Lib.hid (reader_next W0 w B all k is hw h)
  have HR := Lib.hid (fun w (hw : Below W0.heap.size W0 w) => show Calls Tryz.prog 163 #[.string (all.getD k ⟨#[]⟩)] w (fun e w' => ∃ m b, e = .returned (.tuple #[.int .i64 m, .bool b]) ∧ Below w.heap.size w w' ∧ (is && isNum all k) = ((is && decide (k < all.length)) && b) ∧ (isNum all k = true → m = (numO (wordAt all k)).getD 0)) by
    cases hn : numO (wordAt all k) with
    | some v =>
      exact (atom_number_some _ hsz v hn w (ht.keep hw)).mono fun e w' ⟨h1, h2⟩ => ⟨v, true, h1, h2, by simp [isNum, hn], fun _ => rfl⟩
    | none =>
      exact (atom_number_none _ hsz hn w (ht.keep hw) (he.keep hw)).mono fun e w' ⟨m, h1, h2⟩ => ⟨m, false, h1, h2, by simp [isNum, hn], fun h => by simp [isNum, hn] at h⟩)
  clear h hs hsz hw ht he
  go_enter Tryz.func132, Tryz.ntmps132
  go_wp2_with fail
  refine (HN.out).mono ?_
  rintro e w1 ⟨rfl, hR1, hg1⟩
  have HG1 := Lib.hid hg1
  clear hg1
  obtain ⟨hb1, P, c, hB, hP, hc, hm⟩ := hR1
  have HB1 := Lib.hid hb1
  have HBB := Lib.hid hB
  have HP := Lib.hid hP
  have HC := Lib.hid hc
  have HM := Lib.hid hm
  clear hP hc hm hB hb1 HN
  go_wp2_with fail
  refine (HR.out w1 HB1.out).mono ?_
  rintro e w2 ⟨v, b, rfl, hb2, hbT, hI⟩
  have HB2 := Lib.hid (Below.next HB1.out hb2)
  have HG2 := Lib.hid (gr_trans HG1.out (gr_below hb2 _))
  clear HG1
  have hB2 := HBB.out.keep hb2
  have HBT := Lib.hid hbT
  have HI := Lib.hid hI
  clear hbT hI HB1 HBB hb2 HR
  generalize (is && decide (k < all.length)) = a at hB2 HBT
  have c1 : w2.cell? ⟨W0.heap.size, 1, none⟩ = some (.bool a) := hB2.cell 1
  have f1 := hB2.frozen 1
  have BN := Lib.hid hB2
  clear hB2
  cases a <;> cases b
  all_goals
    go_wp2
    go_ret
    refine ⟨_, rfl, ?_, fun h => HI.out h, gr_trans HG2.out (gr_set _ _ _ _)⟩
    rw [HBT.out]
    exact ⟨HB2.out.setCell (Nat.le_refl _) _, P, c, BN.out.set_ 1 _, HP.out, HC.out, HM.out⟩
theorem RdW.far {W0 w : World} {B : Nat} {all : List ByteArray} {k : Nat} {is : Bool} (h : RdW W0 w B all k is) {g : Nat} (hg : W0.heap.size < g) (i : Nat) (u : Value) : RdW W0 (w.setCell ⟨g, i, none⟩ u) B all k is := by
  obtain ⟨hb, P, c, hB, h⟩ := h
  exact ⟨hb.setCell (Nat.le_of_lt hg) _, P, c, hB.far (p := ⟨g, i, none⟩) (Nat.ne_of_lt hg) u, h⟩
theorem RdW.alloc {W0 w : World} {B : Nat} {all : List ByteArray} {k : Nat} {is : Bool} (h : RdW W0 w B all k is) (o : Obj) : RdW W0 (w.alloc o) B all k is := by
  obtain ⟨hb, P, c, hB, h⟩ := h
  exact ⟨Go.Proofs.YtcloppcekbdbaaaGreatDoor.Below.laid hb o, P, c, hB.alloc o, h⟩
theorem gr_set_new {a w : World} {r : Option Nat} (h : a.grownBy w r) {g : Nat} (hg : a.heap.size ≤ g) (i : Nat) (u : Value) : a.grownBy (w.setCell ⟨g, i, none⟩ u) r :=
  ⟨h.os, h.tape, h.output, by have := h.size; simpa [World.setCell] using this, fun k hk hr => (Below.heap_setCell _ _ _ _ (show k ≠ g by omega)).trans (h.block k hk hr)⟩
theorem ints_fresh {a w : World} {A : Option Addr} {n c : Nat} {l : List Int} (h : IsInts w (.slice A n c) l) (hf : FreshV a (.slice A n c)) {g : Nat} (hg : g < a.heap.size) (i : Nat) (u : Value) : IsInts (w.setCell ⟨g, i, none⟩ u) (.slice A n c) l := by
  obtain ⟨A', c', hv, hr, hc⟩ := h
  injection hv with e1 e2 e3
  subst e1 e2 e3
  refine ⟨A, c, rfl, fun j x hj => ?_, hc⟩
  obtain ⟨ad, e, h⟩ := hr j x hj
  subst e
  refine ⟨ad, rfl, ?_⟩
  rw [World.cell?_setCell_far _ ⟨g, i, none⟩ _ _ (by rw [block_of_add]; have := hf ad _ _ rfl; simp; omega)]; exact h
theorem cell_gr {w w' : World} {r : Option Nat} {a : Addr} {v : Value} (h : w.cell? a = some v) (hg : w.grownBy w' r) (hn : some a.block ≠ r) : w'.cell? a = some v := by
  have := hg.block a.block (cell_lt h) hn
  unfold World.cell? at h ⊢
  rw [this]; exact h
theorem ints_gr {w w' : World} {v : Value} {l : List Int} {g : Nat} {t : TypeId} {A : Option Addr} {n c : Nat} {b : Bool} (h : IsInts w v l) (hB : Blk w g t #[.slice A n c, .bool b]) (hg : w.grownBy w' (some g)) : IsInts w' v l := by
  obtain ⟨A, c, hv, hr, hc⟩ := h
  refine ⟨A, c, hv, fun j x hj => ?_, hc⟩
  obtain ⟨ad, e, h⟩ := hr j x hj
  obtain ⟨z, rfl⟩ : ∃ z, x = .int .i64 z := by
    rw [List.getElem?_map] at hj
    obtain ⟨z, _, rfl⟩ := Option.map_eq_some_iff.1 hj
    exact ⟨z, rfl⟩
  exact ⟨ad, e, cell_gr h hg (fun e => rd_block hB h (Option.some.inj e).symm)⟩
end Go.Proofs.YtcloppcekbdbaaaGreatDoor

/-
  THE WALK of atom.Read (printed by gen_read.py).
-/
import Derived.Test.YtcloppcekbdbaaaGreatDoorReader
import Derived.Test.YtcloppcekbdbaaaGreatDoorSplit
import Derived.Test.YtcloppcekbdbaaaGreatDoorAtomText
import Derived.Deep.MidRow
import Derived.BigRegion
namespace Go.Proofs.YtcloppcekbdbaaaGreatDoor
open Go.RowKit Go.ChangeShapes

theorem idxK0 (W : World) : (Instr.index 137 (.agg kindCells.toArray) (.int .i64 0)).run Tryz.prog W = .ok (.agg #[.string ⟨#[]⟩, .bool false, .bool false]) W := by kernel_rfl
theorem idxK1 (W : World) : (Instr.index 137 (.agg kindCells.toArray) (.int .i64 1)).run Tryz.prog W = .ok (.agg #[.string ⟨#[115, 117, 98]⟩, .bool true, .bool false]) W := by kernel_rfl
theorem idxK2 (W : World) : (Instr.index 137 (.agg kindCells.toArray) (.int .i64 2)).run Tryz.prog W = .ok (.agg #[.string ⟨#[115, 97, 109, 101]⟩, .bool true, .bool false]) W := by kernel_rfl
theorem idxK3 (W : World) : (Instr.index 137 (.agg kindCells.toArray) (.int .i64 3)).run Tryz.prog W = .ok (.agg #[.string ⟨#[108, 101, 97, 115, 116]⟩, .bool false, .bool true]) W := by kernel_rfl
theorem idxK4 (W : World) : (Instr.index 137 (.agg kindCells.toArray) (.int .i64 4)).run Tryz.prog W = .ok (.agg #[.string ⟨#[109, 111, 115, 116]⟩, .bool false, .bool true]) W := by kernel_rfl
theorem idxK5 (W : World) : (Instr.index 137 (.agg kindCells.toArray) (.int .i64 5)).run Tryz.prog W = .ok (.agg #[.string ⟨#[110, 111, 109, 111, 114, 101]⟩, .bool true, .bool true]) W := by kernel_rfl
theorem kinds_range {w : World} (h : KindsOk w) : w.rangeAt 0 0 kindCells := fun j v hv => by rw [Nat.zero_add]; exact h j v hv
theorem kinds_size : (Tryz.prog.info? 137).map (·.size) = some kindCells.length := by kernel_rfl
attribute [local go_sem] idxK0 idxK1 idxK2 idxK3 idxK4 idxK5

/-- A text's words. -/
def wordsOf (s : ByteArray) : List ByteArray := Lib.splitB ⟨#[32]⟩ 0 (Lib.countB s ⟨#[32]⟩) s
def termAt (ws : List ByteArray) (k : Nat) : List Int := (readT (wordAt ws k)).getD []
def numAt (ws : List ByteArray) (k : Nat) : Int := (numO (wordAt ws k)).getD 0
def readST (x : Int) (ws : List ByteArray) : Option Venn.Atom := if (isTerm ws 1 && isTerm ws 2 && decide (ws.length ≤ 3)) = true then some ⟨x, termAt ws 1, termAt ws 2, 0⟩ else none
def readSN (x : Int) (ws : List ByteArray) : Option Venn.Atom := if (isTerm ws 1 && isNum ws 2 && decide (ws.length ≤ 3)) = true then some ⟨x, termAt ws 1, [], numAt ws 2⟩ else none
def readSTN (x : Int) (ws : List ByteArray) : Option Venn.Atom := if (isTerm ws 1 && isTerm ws 2 && isNum ws 3 && decide (ws.length ≤ 4)) = true then some ⟨x, termAt ws 1, termAt ws 2, numAt ws 3⟩ else none
/-- The atom that words are. -/
def readA (ws : List ByteArray) : Option Venn.Atom :=
  if wordAt ws 0 = Venn.wordB 1 then readST 1 ws else if wordAt ws 0 = Venn.wordB 2 then readST 2 ws else if wordAt ws 0 = Venn.wordB 3 then readSN 3 ws
  else if wordAt ws 0 = Venn.wordB 4 then readSN 4 ws else if wordAt ws 0 = Venn.wordB 5 then readSTN 5 ws else none
/-- What atom.Read gives. -/
def ReadsTo (o : Option Venn.Atom) (w : World) (e : Ending) (w' : World) : Prop :=
  ∃ x A n c A' n' c' m, e = .returned (.tuple #[.agg #[.int .i64 x, .slice A n c, .slice A' n' c', .int .i64 m], .bool o.isSome]) ∧ Below w.heap.size w w' ∧
    ∀ a, o = some a → x = a.what ∧ m = a.n ∧ IsInts w' (.slice A n c) a.s ∧ IsInts w' (.slice A' n' c') a.t ∧ FreshV w (.slice A n c) ∧ FreshV w (.slice A' n' c')
theorem splitB_size (sep : ByteArray) : ∀ (k : Nat) (s : ByteArray), ∀ x ∈ Lib.splitB sep 0 k s, x.size ≤ s.size
  | 0, s, x, hx => by rw [Lib.splitB_zero] at hx; simp at hx; rw [hx]; exact Nat.le_refl _
  | k + 1, s, x, hx => by
    unfold Lib.splitB at hx
    split at hx
    · simp at hx; rw [hx]; exact Nat.le_refl _
    · rcases List.mem_cons.1 hx with rfl | hx
      · simp only [ByteArray.size_extract]; omega
      · have := splitB_size sep k _ x hx
        simp only [ByteArray.size_extract] at this; omega
theorem words_size {s : ByteArray} (hs : s.size < 4294967281) : ∀ x ∈ wordsOf s, x.size < 4294967281 := fun x hx => Nat.lt_of_le_of_lt (splitB_size _ _ s x hx) hs
theorem words_len (s : ByteArray) : (wordsOf s).length = Lib.countB s ⟨#[32]⟩ + 1 := Lib.splitB_all ⟨#[32]⟩ (by decide) 0 (Lib.countB s ⟨#[32]⟩) s rfl
/-- The words, and the reader in front of them. -/
theorem words_at {w : World} {s : ByteArray} {T : TypeId} : WordsAt (w.alloc (.cells ((wordsOf s).map Value.string).toArray T)) w.heap.size (wordsOf s) := by
  intro j x hj
  rw [World.cell?_alloc_at _ _ _ _ (by simp)]
  simp [hj]
theorem bytes_word {all : List ByteArray} {l : List UInt8} (h : wordAt all 0 = l) : all.getD 0 ⟨#[]⟩ = ⟨l.toArray⟩ := by
  unfold wordAt at h
  generalize all.getD 0 ⟨#[]⟩ = X at h ⊢
  cases X with | mk d => rw [← h]
theorem word_ne {all : List ByteArray} {l : List UInt8} (h : wordAt all 0 ≠ l) : (l == (all.getD 0 ⟨#[]⟩).toList) = false := by
  refine beq_eq_false_iff_ne.2 fun e => h ?_
  unfold wordAt
  rw [e]; simp [ByteArray.toList_eq]
theorem countB_bound {s : ByteArray} (hs : s.size < 4294967281) : Lib.countB s ⟨#[32]⟩ < 4294967281 := Nat.lt_of_le_of_lt (Lib.countB_le ⟨#[32]⟩ (by decide) s.size s (Nat.le_refl _)) hs
theorem words_maxlen {s : ByteArray} (hs : s.size < 4294967281) : (wordsOf s).length ≤ maxLen := by
  rw [words_len]
  have := countB_bound hs
  unfold maxLen; omega

theorem Blk.set4 {w : World} {g : Nat} {t : TypeId} {y0 y1 y2 y3 : Value} (h : Blk w g t #[y0, y1, y2, y3]) (x0 x1 x2 x3 : Value) : Blk ((((w.setCell ⟨g, 0, none⟩ x0).setCell ⟨g, 1, none⟩ x1).setCell ⟨g, 2, none⟩ x2).setCell ⟨g, 3, none⟩ x3) g t #[x0, x1, x2, x3] := by
  have := (((h.set_ 0 x0).set_ 1 x1).set_ 2 x2).set_ 3 x3
  simpa using this
theorem below_set4 {B : Nat} {a w : World} (h : Below B a w) {g : Nat} (hg : B ≤ g) (x0 x1 x2 x3 : Value) : Below B a ((((w.setCell ⟨g, 0, none⟩ x0).setCell ⟨g, 1, none⟩ x1).setCell ⟨g, 2, none⟩ x2).setCell ⟨g, 3, none⟩ x3) :=
  (((h.setCell hg x0).setCell hg x1).setCell hg x2).setCell hg x3
theorem ints_fresh4 {a w : World} {A : Option Addr} {n c : Nat} {l : List Int} (h : IsInts w (.slice A n c) l) (hf : FreshV a (.slice A n c)) {g : Nat} (hg : g < a.heap.size) (x0 x1 x2 x3 : Value) : IsInts ((((w.setCell ⟨g, 0, none⟩ x0).setCell ⟨g, 1, none⟩ x1).setCell ⟨g, 2, none⟩ x2).setCell ⟨g, 3, none⟩ x3) (.slice A n c) l :=
  ints_fresh (ints_fresh (ints_fresh (ints_fresh h hf hg 0 x0) hf hg 1 x1) hf hg 2 x2) hf hg 3 x3
theorem readST_some (x : Int) (ws : List ByteArray) : (readST x ws).isSome = (((true && isTerm ws 1) && isTerm ws 2) && decide (ws.length - 3 = 0)) := by
  have : decide (ws.length - 3 = 0) = decide (ws.length ≤ 3) := decide_eq_decide.2 (by omega)
  rw [this, Bool.true_and]; unfold readST; split <;> simp_all
theorem readST_val {x : Int} {ws : List ByteArray} {a : Venn.Atom} (h : readST x ws = some a) : isTerm ws 1 = true ∧ isTerm ws 2 = true ∧ a = ⟨x, termAt ws 1, termAt ws 2, 0⟩ := by
  unfold readST at h; split at h
  · rename_i hc; simp only [Bool.and_eq_true] at hc; exact ⟨hc.1.1, hc.1.2, (Option.some.inj h).symm⟩
  · cases h
theorem readSN_some (x : Int) (ws : List ByteArray) : (readSN x ws).isSome = (((true && isTerm ws 1) && isNum ws 2) && decide (ws.length - 3 = 0)) := by
  have : decide (ws.length - 3 = 0) = decide (ws.length ≤ 3) := decide_eq_decide.2 (by omega)
  rw [this, Bool.true_and]; unfold readSN; split <;> simp_all
theorem readSN_val {x : Int} {ws : List ByteArray} {a : Venn.Atom} (h : readSN x ws = some a) : isTerm ws 1 = true ∧ isNum ws 2 = true ∧ a = ⟨x, termAt ws 1, [], numAt ws 2⟩ := by
  unfold readSN at h; split at h
  · rename_i hc; simp only [Bool.and_eq_true] at hc; exact ⟨hc.1.1, hc.1.2, (Option.some.inj h).symm⟩
  · cases h
theorem readSTN_some (x : Int) (ws : List ByteArray) : (readSTN x ws).isSome = ((((true && isTerm ws 1) && isTerm ws 2) && isNum ws 3) && decide (ws.length - 4 = 0)) := by
  have : decide (ws.length - 4 = 0) = decide (ws.length ≤ 4) := decide_eq_decide.2 (by omega)
  rw [this, Bool.true_and]; unfold readSTN; split <;> simp_all
theorem readSTN_val {x : Int} {ws : List ByteArray} {a : Venn.Atom} (h : readSTN x ws = some a) : isTerm ws 1 = true ∧ isTerm ws 2 = true ∧ isNum ws 3 = true ∧ a = ⟨x, termAt ws 1, termAt ws 2, numAt ws 3⟩ := by
  unfold readSTN at h; split at h
  · rename_i hc; simp only [Bool.and_eq_true] at hc; exact ⟨hc.1.1.1, hc.1.1.2, hc.1.2, (Option.some.inj h).symm⟩
  · cases h
set_option maxHeartbeats 4000000 in
set_option maxRecDepth 100000 in
theorem read_1 (s : ByteArray) (w : World) (hs : s.size < 4294967281) (hk : KindsOk w) (ht : TabOk w) (he : ErrsOk w) (hm : MaxOk w) (hw0 : wordAt (wordsOf s) 0 = Venn.wordB 1) :
    Calls Tryz.prog 91 #[.string s] w (ReadsTo (readST 1 (wordsOf s)) w) := by
  have hX : (wordsOf s).getD 0 ⟨#[]⟩ = ⟨#[115, 117, 98]⟩ := bytes_word hw0
  have HKI := Lib.hid hk
  have HTB := Lib.hid ht
  have HER := Lib.hid he
  have HMX := Lib.hid hm
  have hal0 : Below w.heap.size w (w.alloc (.cells #[.int .i64 0, .slice none 0 0, .slice none 0 0, .int .i64 0] 32)) := by (repeat' (first | (with_reducible exact Below.refl _ _) | (with_reducible assumption) | (with_reducible refine Below.next ?_ (by with_reducible assumption)) | (with_reducible refine Below.drew ?_) | (with_reducible refine Below.laid ?_ _) | (with_reducible refine Below.setCell ?_ ?_ _) | (with_reducible refine size_of ?_) | (with_reducible refine Nat.le_succ_of_le ?_) | go_size))
  have BR0 := Lib.hid (Blk.new w 32 #[.int .i64 0, .slice none 0 0, .slice none 0 0, .int .i64 0])
  have hz : (w.alloc (.cells #[.int .i64 0, .slice none 0 0, .slice none 0 0, .int .i64 0] 32)).heap.size = w.heap.size + 1 := by simp
  have HS := Lib.hid hs
  have HSPL := Lib.hid (fun W (hW : MaxOk W) => strings_Split s ⟨#[32]⟩ W hW hs (by decide))
  have HLEN := Lib.hid (words_len s)
  have HALL := Lib.hid (words_size hs)
  clear hk ht he hm hs
  go_enter Tryz.func91, Tryz.ntmps91
  go_upto_region 1 with (fail)
  revert hal0 BR0 hz
  generalize w.alloc (.cells #[.int .i64 0, .slice none 0 0, .slice none 0 0, .int .i64 0] 32) = w0
  intro hal0 BR0 hz
  have HZ := Lib.hid hz
  have HB0 := Lib.hid hal0
  clear hal0 hz
  go_wp2_with fail
  refine (HSPL.out w0 (HMX.out.keep HB0.out)).mono ?_
  rintro e w1 ⟨rfl, hw1⟩
  have HW1 := Lib.hid (show w1 = w0.alloc (.cells ((wordsOf s).map Value.string).toArray 9) from hw1)
  clear hw1
  have HB01 := Lib.hid (show Below w0.heap.size w0 w1 by rw [HW1.out]; exact (Below.refl _ _).alloc (Nat.le_refl _) _)
  have HWA := Lib.hid (show WordsAt w1 w0.heap.size (wordsOf s) by rw [HW1.out]; exact words_at)
  have HRD0 := Lib.hid (show RdW w1 (w1.alloc (.cells #[.slice (some ⟨w0.heap.size, 0, none⟩) (Lib.countB s ⟨#[32]⟩ + 1) (Lib.countB s ⟨#[32]⟩ + 1), .bool true] 178)) w0.heap.size (wordsOf s) 0 true from ⟨(Below.refl _ _).alloc (Nat.le_refl _) _, some ⟨w0.heap.size, 0, none⟩, Lib.countB s ⟨#[32]⟩ + 1, by rw [Nat.sub_zero, HLEN.out]; exact Blk.new _ _ _, fun _ => rfl, by rw [HLEN.out]; omega, by rw [← HLEN.out]; exact words_maxlen HS.out⟩)
  have HN := Lib.hid (reader_next w1 _ _ (wordsOf s) 0 true HWA.out HRD0.out)
  have hlen0 : decide (0 < (wordsOf s).length) = true := by rw [HLEN.out]; simp
  rw [hlen0, Bool.and_true, hX] at HN
  go_wp2_with fail
  refine (HN.out).mono ?_
  rintro e w2 ⟨rfl, hR2, _⟩
  have HR2 := Lib.hid hR2
  have HB2 := Lib.hid (Below.next (Below.next HB0.out HB01.out) hR2.1)
  have hsz2 : w1.heap.size < w2.heap.size := by obtain ⟨_, P, c, hB, _⟩ := hR2; exact hB.lt
  have HSZ := Lib.hid hsz2
  clear hR2 hsz2 HN HRD0 HSPL hlen0
  have kld := Lib.hid (kinds_range (HKI.out.keep HB2.out))
  have q1 : ((⟨#[115, 117, 98]⟩ : ByteArray) != ⟨#[115, 117, 98]⟩) = false := by decide
  go_upto_region 3 with (fail)
  go_wp2_with (refine wpList_load_mid rfl 137 _ rfl 0 0 rfl kindCells _ kld.out Tryz.underlying137 rfl kinds_size ?_)
  clear kld
  refine wp_loop_rounds 2 ?_
  rw [rounds_succ]
  go_wp2_with fail
  rw [rounds_succ]
  go_wp2_with fail
  have HS1 := Lib.hid (fun x hx => Nat.lt_trans (HALL.out x hx) (by decide : 4294967281 < 1099511627776))
  refine (reader_term w1 _ _ (wordsOf s) 1 true HWA.out (by repeat (first | exact HR2.out | apply RdW.alloc)) HS1.out).mono ?_
  rintro e w3 ⟨S, nS, cS, rfl, hR3, hS3, hFS, hg3⟩
  have BK := (Blk.newAt (g := w2.heap.size + 1) (by simp) 136 #[.string ⟨#[115, 117, 98]⟩, .bool true, .bool false]).grown hg3 (by have := HSZ.out; simp; omega)
  have hb34 : Below w3.heap.size w3 (w3.alloc (.cells #[.int .i64 1, .slice S nS cS, .slice none 0 0, .int .i64 0] 32)) := (Below.refl _ _).alloc (Nat.le_refl _) _
  have HR4 := Lib.hid (hR3.alloc (.cells #[.int .i64 1, .slice S nS cS, .slice none 0 0, .int .i64 0] 32))
  have BA := Blk.new w3 32 #[.int .i64 1, .slice S nS cS, .slice none 0 0, .int .i64 0]
  have hsz3 : w2.heap.size + 2 ≤ w3.heap.size := by have := hg3.size; simpa using this
  obtain ⟨_, P3, c3, hB3, _⟩ := id hR3
  have HFS := Lib.hid (show FreshV w2 (.slice S nS cS) from fun A n c e => Nat.le_trans (by simp; omega) (hFS A n c e))
  clear hFS
  have HIS := Lib.hid (fun W (hW : w3.grownBy W (some w1.heap.size)) (h : isTerm (wordsOf s) 1 = true) => ints_gr (hS3 h) hB3 hW)
  have HIK := Lib.hid (fun W (hW : w3.grownBy W (some w1.heap.size)) => Blk.grown BK hW (by have := HSZ.out; simp; omega))
  clear hR3 hS3 hg3 BK hB3
  go_upto_region 8 with (fail)
  revert hb34 HR4 BA
  generalize (w3.alloc (.cells #[.int .i64 1, .slice S nS cS, .slice none 0 0, .int .i64 0] 32)) = w4
  intro hb34 HR4 BA
  have HSZ3 := Lib.hid hsz3
  have HLA := Lib.hid BA.lt
  have HA4 := Lib.hid BA
  have HG4 := Lib.hid (gr_below hb34 (some w1.heap.size))
  have BK := HIK.out w4 HG4.out
  have kt : w4.cell? ⟨w2.heap.size + 1, 1, none⟩ = some (.bool true) := BK.cell 1
  clear hsz3 hb34 BA BK
  go_wp2_with fail
  refine (reader_term w1 w4 _ (wordsOf s) 2 _ HWA.out HR4.out HS1.out).mono ?_
  rintro e w5 ⟨T, nT, cT, rfl, hR5, hT, hF, hg⟩
  have nR : w1.heap.size < w3.heap.size := by have := HSZ3.out; have := HSZ.out; omega
  have BA := HA4.out.grown hg (by simp; omega)
  have aT : w5.cell? ⟨w3.heap.size, 2, none⟩ = some (.slice none 0 0) := BA.cell 2
  have fT := BA.frozen 2
  have HG6 := Lib.hid (gr_set_new (gr_trans HG4.out hg) (Nat.le_refl _) 2 (.slice T nT cT))
  have HR6 := Lib.hid (hR5.far nR 2 (.slice T nT cT))
  have HA6 := Lib.hid (BA.set_ 2 (.slice T nT cT))
  have HT6 := Lib.hid (fun h => ints_fresh (hT h) hF HLA.out 2 (.slice T nT cT))
  have HF := Lib.hid hF
  clear hT hF
  clear hR5 hg BA nR
  have kn : (w5.setCell ⟨w3.heap.size, 2, none⟩ (.slice T nT cT)).cell? ⟨w2.heap.size + 1, 2, none⟩ = some (.bool false) := (HIK.out _ HG6.out).cell 2
  go_upto_region 10 with (fail)
  clear aT fT
  revert HG6 HR6 HA6 HT6 kn
  generalize World.setCell _ _ _ = w6
  intro HG6 HR6 HA6 HT6 kn
  go_upto_region 12 with (fail)
  obtain ⟨hbR, P, c, hB, _⟩ := HR6.out
  have HO := Lib.hid (readST_some 1 (wordsOf s))
  have HV := Lib.hid (fun a (h : readST 1 (wordsOf s) = some a) => readST_val h)
  generalize hOE : readST 1 (wordsOf s) = O at HO HV
  have HOE := Lib.hid hOE
  clear hOE
  have HO' := HO.out
  clear HO
  generalize ((true && isTerm (wordsOf s) 1) && isTerm (wordsOf s) 2) = F at hB HO'
  generalize (wordsOf s).length - 3 = M at hB HO'
  have HBW := Lib.hid (Below.next (Below.next HB0.out HB01.out) hbR)
  have BRes := BR0.out.keep (Below.next HB01.out hbR)
  have r0 : w6.cell? ⟨w1.heap.size, 0, none⟩ = some (.slice P M c) := hB.cell 0
  have r1 : w6.cell? ⟨w1.heap.size, 1, none⟩ = some (.bool F) := hB.cell 1
  have a0 : w6.cell? ⟨w3.heap.size, 0, none⟩ = some (.int .i64 1) := HA6.out.cell 0
  have a1 : w6.cell? ⟨w3.heap.size, 1, none⟩ = some (.slice S nS cS) := HA6.out.cell 1
  have a2 : w6.cell? ⟨w3.heap.size, 2, none⟩ = some (.slice T nT cT) := HA6.out.cell 2
  have a3 : w6.cell? ⟨w3.heap.size, 3, none⟩ = some (.int .i64 0) := HA6.out.cell 3
  have z0 : w6.cell? ⟨w.heap.size, 0, none⟩ = some (.int .i64 0) := BRes.cell 0
  have y0 := BRes.frozen 0
  have z1 : w6.cell? ⟨w.heap.size, 1, none⟩ = some (.slice none 0 0) := BRes.cell 1
  have y1 := BRes.frozen 1
  have z2 : w6.cell? ⟨w.heap.size, 2, none⟩ = some (.slice none 0 0) := BRes.cell 2
  have y2 := BRes.frozen 2
  have z3 : w6.cell? ⟨w.heap.size, 3, none⟩ = some (.int .i64 0) := BRes.cell 3
  have y3 := BRes.frozen 3
  have GS := Lib.hid (BRes.set4 (.int .i64 1) (.slice S nS cS) (.slice T nT cT) (.int .i64 0))
  have GL := Lib.hid (below_set4 HBW.out (Nat.le_refl _) (.int .i64 1) (.slice S nS cS) (.slice T nT cT) (.int .i64 0))
  have HLW := Lib.hid (show w.heap.size < w2.heap.size by have := size_of HB2.out; have := HSZ.out; have := size_of HB01.out; have := HZ.out; omega)
  have nW1 : w.heap.size < w1.heap.size := by have := size_of HB01.out; have := HZ.out; omega
  have nW3 : w.heap.size < w3.heap.size := by have := HSZ3.out; have := HLW.out; omega
  have HIS' := Lib.hid (fun h => ints_fresh4 (HIS.out w6 HG6.out h) HFS.out HLW.out (.int .i64 1) (.slice S nS cS) (.slice T nT cT) (.int .i64 0))
  have HIT' := Lib.hid (fun h => ints_fresh4 (g := w.heap.size) (HT6.out h) HF.out (by have := HLW.out; have := HSZ3.out; have := HLA.out; omega) (.int .i64 1) (.slice S nS cS) (.slice T nT cT) (.int .i64 0))
  clear hB BRes hbR HA6 HR6 HG6 HIS HIK HT6 HBW BR0
  cases F
  · rw [Bool.false_and] at HO'
    go_region
    go_wp2
    revert GS GL HIS' HIT'
    generalize World.setCell _ _ _ = Wf
    intro GS GL HIS' HIT'
    have e0 : Wf.cell? ⟨w.heap.size, 0, none⟩ = some (.int .i64 1) := GS.out.cell 0
    have e1 : Wf.cell? ⟨w.heap.size, 1, none⟩ = some (.slice S nS cS) := GS.out.cell 1
    have e2 : Wf.cell? ⟨w.heap.size, 2, none⟩ = some (.slice T nT cT) := GS.out.cell 2
    have e3 : Wf.cell? ⟨w.heap.size, 3, none⟩ = some (.int .i64 0) := GS.out.cell 3
    refine bodyPost_ret (v := .tuple #[.agg #[.int .i64 1, .slice S nS cS, .slice T nT cT, .int .i64 0], .bool false]) (by simp [results, Tryz.results91, go_sem, e0, e1, e2, e3]) rfl ?_
    refine ⟨1, S, nS, cS, T, nT, cT, 0, by rw [HOE.out, HO'], GL.out.drew, fun a ha => ?_⟩
    obtain ⟨h0, h1, rfl⟩ := HV.out a (HOE.out.symm.trans ha)
    exact ⟨rfl, rfl, (HIS'.out h0).keep (Below.refl _ _).drew, (HIT'.out h1).keep (Below.refl _ _).drew, fun A n c e => Nat.le_trans (Nat.le_of_lt HLW.out) (HFS.out A n c e), fun A n c e => Nat.le_trans (by have := HLW.out; have := HSZ3.out; have := HLA.out; omega) (HF.out A n c e)⟩
  · rw [Bool.true_and] at HO'
    by_cases hM : M = 0
    · subst hM
      rw [decide_eq_true rfl] at HO'
      go_region
      go_wp2
      revert GS GL HIS' HIT'
      generalize World.setCell _ _ _ = Wf
      intro GS GL HIS' HIT'
      have e0 : Wf.cell? ⟨w.heap.size, 0, none⟩ = some (.int .i64 1) := GS.out.cell 0
      have e1 : Wf.cell? ⟨w.heap.size, 1, none⟩ = some (.slice S nS cS) := GS.out.cell 1
      have e2 : Wf.cell? ⟨w.heap.size, 2, none⟩ = some (.slice T nT cT) := GS.out.cell 2
      have e3 : Wf.cell? ⟨w.heap.size, 3, none⟩ = some (.int .i64 0) := GS.out.cell 3
      refine bodyPost_ret (v := .tuple #[.agg #[.int .i64 1, .slice S nS cS, .slice T nT cT, .int .i64 0], .bool true]) (by simp [results, Tryz.results91, go_sem, e0, e1, e2, e3]) rfl ?_
      refine ⟨1, S, nS, cS, T, nT, cT, 0, by rw [HOE.out, HO'], GL.out.drew, fun a ha => ?_⟩
      obtain ⟨h0, h1, rfl⟩ := HV.out a (HOE.out.symm.trans ha)
      exact ⟨rfl, rfl, (HIS'.out h0).keep (Below.refl _ _).drew, (HIT'.out h1).keep (Below.refl _ _).drew, fun A n c e => Nat.le_trans (Nat.le_of_lt HLW.out) (HFS.out A n c e), fun A n c e => Nat.le_trans (by have := HLW.out; have := HSZ3.out; have := HLA.out; omega) (HF.out A n c e)⟩
    · have hM' : decide (M = 0) = false := decide_eq_false hM
      rw [hM'] at HO'
      have hM1 : ((M : Int) == 0) = false := beq_eq_false_iff_ne.2 (by omega)
      go_region
      go_wp2
      revert GS GL HIS' HIT'
      generalize World.setCell _ _ _ = Wf
      intro GS GL HIS' HIT'
      have e0 : Wf.cell? ⟨w.heap.size, 0, none⟩ = some (.int .i64 1) := GS.out.cell 0
      have e1 : Wf.cell? ⟨w.heap.size, 1, none⟩ = some (.slice S nS cS) := GS.out.cell 1
      have e2 : Wf.cell? ⟨w.heap.size, 2, none⟩ = some (.slice T nT cT) := GS.out.cell 2
      have e3 : Wf.cell? ⟨w.heap.size, 3, none⟩ = some (.int .i64 0) := GS.out.cell 3
      refine bodyPost_ret (v := .tuple #[.agg #[.int .i64 1, .slice S nS cS, .slice T nT cT, .int .i64 0], .bool false]) (by simp [results, Tryz.results91, go_sem, e0, e1, e2, e3]) rfl ?_
      refine ⟨1, S, nS, cS, T, nT, cT, 0, by rw [HOE.out, HO'], GL.out.drew, fun a ha => ?_⟩
      obtain ⟨h0, h1, rfl⟩ := HV.out a (HOE.out.symm.trans ha)
      exact ⟨rfl, rfl, (HIS'.out h0).keep (Below.refl _ _).drew, (HIT'.out h1).keep (Below.refl _ _).drew, fun A n c e => Nat.le_trans (Nat.le_of_lt HLW.out) (HFS.out A n c e), fun A n c e => Nat.le_trans (by have := HLW.out; have := HSZ3.out; have := HLA.out; omega) (HF.out A n c e)⟩
set_option maxHeartbeats 4000000 in
set_option maxRecDepth 100000 in
theorem read_2 (s : ByteArray) (w : World) (hs : s.size < 4294967281) (hk : KindsOk w) (ht : TabOk w) (he : ErrsOk w) (hm : MaxOk w) (hw0 : wordAt (wordsOf s) 0 = Venn.wordB 2) :
    Calls Tryz.prog 91 #[.string s] w (ReadsTo (readST 2 (wordsOf s)) w) := by
  have hX : (wordsOf s).getD 0 ⟨#[]⟩ = ⟨#[115, 97, 109, 101]⟩ := bytes_word hw0
  have HKI := Lib.hid hk
  have HTB := Lib.hid ht
  have HER := Lib.hid he
  have HMX := Lib.hid hm
  have hal0 : Below w.heap.size w (w.alloc (.cells #[.int .i64 0, .slice none 0 0, .slice none 0 0, .int .i64 0] 32)) := by (repeat' (first | (with_reducible exact Below.refl _ _) | (with_reducible assumption) | (with_reducible refine Below.next ?_ (by with_reducible assumption)) | (with_reducible refine Below.drew ?_) | (with_reducible refine Below.laid ?_ _) | (with_reducible refine Below.setCell ?_ ?_ _) | (with_reducible refine size_of ?_) | (with_reducible refine Nat.le_succ_of_le ?_) | go_size))
  have BR0 := Lib.hid (Blk.new w 32 #[.int .i64 0, .slice none 0 0, .slice none 0 0, .int .i64 0])
  have hz : (w.alloc (.cells #[.int .i64 0, .slice none 0 0, .slice none 0 0, .int .i64 0] 32)).heap.size = w.heap.size + 1 := by simp
  have HS := Lib.hid hs
  have HSPL := Lib.hid (fun W (hW : MaxOk W) => strings_Split s ⟨#[32]⟩ W hW hs (by decide))
  have HLEN := Lib.hid (words_len s)
  have HALL := Lib.hid (words_size hs)
  clear hk ht he hm hs
  go_enter Tryz.func91, Tryz.ntmps91
  go_upto_region 1 with (fail)
  revert hal0 BR0 hz
  generalize w.alloc (.cells #[.int .i64 0, .slice none 0 0, .slice none 0 0, .int .i64 0] 32) = w0
  intro hal0 BR0 hz
  have HZ := Lib.hid hz
  have HB0 := Lib.hid hal0
  clear hal0 hz
  go_wp2_with fail
  refine (HSPL.out w0 (HMX.out.keep HB0.out)).mono ?_
  rintro e w1 ⟨rfl, hw1⟩
  have HW1 := Lib.hid (show w1 = w0.alloc (.cells ((wordsOf s).map Value.string).toArray 9) from hw1)
  clear hw1
  have HB01 := Lib.hid (show Below w0.heap.size w0 w1 by rw [HW1.out]; exact (Below.refl _ _).alloc (Nat.le_refl _) _)
  have HWA := Lib.hid (show WordsAt w1 w0.heap.size (wordsOf s) by rw [HW1.out]; exact words_at)
  have HRD0 := Lib.hid (show RdW w1 (w1.alloc (.cells #[.slice (some ⟨w0.heap.size, 0, none⟩) (Lib.countB s ⟨#[32]⟩ + 1) (Lib.countB s ⟨#[32]⟩ + 1), .bool true] 178)) w0.heap.size (wordsOf s) 0 true from ⟨(Below.refl _ _).alloc (Nat.le_refl _) _, some ⟨w0.heap.size, 0, none⟩, Lib.countB s ⟨#[32]⟩ + 1, by rw [Nat.sub_zero, HLEN.out]; exact Blk.new _ _ _, fun _ => rfl, by rw [HLEN.out]; omega, by rw [← HLEN.out]; exact words_maxlen HS.out⟩)
  have HN := Lib.hid (reader_next w1 _ _ (wordsOf s) 0 true HWA.out HRD0.out)
  have hlen0 : decide (0 < (wordsOf s).length) = true := by rw [HLEN.out]; simp
  rw [hlen0, Bool.and_true, hX] at HN
  go_wp2_with fail
  refine (HN.out).mono ?_
  rintro e w2 ⟨rfl, hR2, _⟩
  have HR2 := Lib.hid hR2
  have HB2 := Lib.hid (Below.next (Below.next HB0.out HB01.out) hR2.1)
  have hsz2 : w1.heap.size < w2.heap.size := by obtain ⟨_, P, c, hB, _⟩ := hR2; exact hB.lt
  have HSZ := Lib.hid hsz2
  clear hR2 hsz2 HN HRD0 HSPL hlen0
  have kld := Lib.hid (kinds_range (HKI.out.keep HB2.out))
  have q1 : ((⟨#[115, 117, 98]⟩ : ByteArray) != ⟨#[115, 97, 109, 101]⟩) = true := by decide
  have q2 : ((⟨#[115, 97, 109, 101]⟩ : ByteArray) != ⟨#[115, 97, 109, 101]⟩) = false := by decide
  go_upto_region 3 with (fail)
  go_wp2_with (refine wpList_load_mid rfl 137 _ rfl 0 0 rfl kindCells _ kld.out Tryz.underlying137 rfl kinds_size ?_)
  clear kld
  refine wp_loop_rounds 3 ?_
  rw [rounds_succ]
  go_wp2_with fail
  rw [rounds_succ]
  go_wp2_with fail
  rw [rounds_succ]
  go_wp2_with fail
  have HS1 := Lib.hid (fun x hx => Nat.lt_trans (HALL.out x hx) (by decide : 4294967281 < 1099511627776))
  refine (reader_term w1 _ _ (wordsOf s) 1 true HWA.out (by repeat (first | exact HR2.out | apply RdW.alloc)) HS1.out).mono ?_
  rintro e w3 ⟨S, nS, cS, rfl, hR3, hS3, hFS, hg3⟩
  have BK := (Blk.newAt (g := w2.heap.size + 2) (by simp) 136 #[.string ⟨#[115, 97, 109, 101]⟩, .bool true, .bool false]).grown hg3 (by have := HSZ.out; simp; omega)
  have hb34 : Below w3.heap.size w3 (w3.alloc (.cells #[.int .i64 2, .slice S nS cS, .slice none 0 0, .int .i64 0] 32)) := (Below.refl _ _).alloc (Nat.le_refl _) _
  have HR4 := Lib.hid (hR3.alloc (.cells #[.int .i64 2, .slice S nS cS, .slice none 0 0, .int .i64 0] 32))
  have BA := Blk.new w3 32 #[.int .i64 2, .slice S nS cS, .slice none 0 0, .int .i64 0]
  have hsz3 : w2.heap.size + 3 ≤ w3.heap.size := by have := hg3.size; simpa using this
  obtain ⟨_, P3, c3, hB3, _⟩ := id hR3
  have HFS := Lib.hid (show FreshV w2 (.slice S nS cS) from fun A n c e => Nat.le_trans (by simp; omega) (hFS A n c e))
  clear hFS
  have HIS := Lib.hid (fun W (hW : w3.grownBy W (some w1.heap.size)) (h : isTerm (wordsOf s) 1 = true) => ints_gr (hS3 h) hB3 hW)
  have HIK := Lib.hid (fun W (hW : w3.grownBy W (some w1.heap.size)) => Blk.grown BK hW (by have := HSZ.out; simp; omega))
  clear hR3 hS3 hg3 BK hB3
  go_upto_region 8 with (fail)
  revert hb34 HR4 BA
  generalize (w3.alloc (.cells #[.int .i64 2, .slice S nS cS, .slice none 0 0, .int .i64 0] 32)) = w4
  intro hb34 HR4 BA
  have HSZ3 := Lib.hid hsz3
  have HLA := Lib.hid BA.lt
  have HA4 := Lib.hid BA
  have HG4 := Lib.hid (gr_below hb34 (some w1.heap.size))
  have BK := HIK.out w4 HG4.out
  have kt : w4.cell? ⟨w2.heap.size + 2, 1, none⟩ = some (.bool true) := BK.cell 1
  clear hsz3 hb34 BA BK
  go_wp2_with fail
  refine (reader_term w1 w4 _ (wordsOf s) 2 _ HWA.out HR4.out HS1.out).mono ?_
  rintro e w5 ⟨T, nT, cT, rfl, hR5, hT, hF, hg⟩
  have nR : w1.heap.size < w3.heap.size := by have := HSZ3.out; have := HSZ.out; omega
  have BA := HA4.out.grown hg (by simp; omega)
  have aT : w5.cell? ⟨w3.heap.size, 2, none⟩ = some (.slice none 0 0) := BA.cell 2
  have fT := BA.frozen 2
  have HG6 := Lib.hid (gr_set_new (gr_trans HG4.out hg) (Nat.le_refl _) 2 (.slice T nT cT))
  have HR6 := Lib.hid (hR5.far nR 2 (.slice T nT cT))
  have HA6 := Lib.hid (BA.set_ 2 (.slice T nT cT))
  have HT6 := Lib.hid (fun h => ints_fresh (hT h) hF HLA.out 2 (.slice T nT cT))
  have HF := Lib.hid hF
  clear hT hF
  clear hR5 hg BA nR
  have kn : (w5.setCell ⟨w3.heap.size, 2, none⟩ (.slice T nT cT)).cell? ⟨w2.heap.size + 2, 2, none⟩ = some (.bool false) := (HIK.out _ HG6.out).cell 2
  go_upto_region 10 with (fail)
  clear aT fT
  revert HG6 HR6 HA6 HT6 kn
  generalize World.setCell _ _ _ = w6
  intro HG6 HR6 HA6 HT6 kn
  go_upto_region 12 with (fail)
  obtain ⟨hbR, P, c, hB, _⟩ := HR6.out
  have HO := Lib.hid (readST_some 2 (wordsOf s))
  have HV := Lib.hid (fun a (h : readST 2 (wordsOf s) = some a) => readST_val h)
  generalize hOE : readST 2 (wordsOf s) = O at HO HV
  have HOE := Lib.hid hOE
  clear hOE
  have HO' := HO.out
  clear HO
  generalize ((true && isTerm (wordsOf s) 1) && isTerm (wordsOf s) 2) = F at hB HO'
  generalize (wordsOf s).length - 3 = M at hB HO'
  have HBW := Lib.hid (Below.next (Below.next HB0.out HB01.out) hbR)
  have BRes := BR0.out.keep (Below.next HB01.out hbR)
  have r0 : w6.cell? ⟨w1.heap.size, 0, none⟩ = some (.slice P M c) := hB.cell 0
  have r1 : w6.cell? ⟨w1.heap.size, 1, none⟩ = some (.bool F) := hB.cell 1
  have a0 : w6.cell? ⟨w3.heap.size, 0, none⟩ = some (.int .i64 2) := HA6.out.cell 0
  have a1 : w6.cell? ⟨w3.heap.size, 1, none⟩ = some (.slice S nS cS) := HA6.out.cell 1
  have a2 : w6.cell? ⟨w3.heap.size, 2, none⟩ = some (.slice T nT cT) := HA6.out.cell 2
  have a3 : w6.cell? ⟨w3.heap.size, 3, none⟩ = some (.int .i64 0) := HA6.out.cell 3
  have z0 : w6.cell? ⟨w.heap.size, 0, none⟩ = some (.int .i64 0) := BRes.cell 0
  have y0 := BRes.frozen 0
  have z1 : w6.cell? ⟨w.heap.size, 1, none⟩ = some (.slice none 0 0) := BRes.cell 1
  have y1 := BRes.frozen 1
  have z2 : w6.cell? ⟨w.heap.size, 2, none⟩ = some (.slice none 0 0) := BRes.cell 2
  have y2 := BRes.frozen 2
  have z3 : w6.cell? ⟨w.heap.size, 3, none⟩ = some (.int .i64 0) := BRes.cell 3
  have y3 := BRes.frozen 3
  have GS := Lib.hid (BRes.set4 (.int .i64 2) (.slice S nS cS) (.slice T nT cT) (.int .i64 0))
  have GL := Lib.hid (below_set4 HBW.out (Nat.le_refl _) (.int .i64 2) (.slice S nS cS) (.slice T nT cT) (.int .i64 0))
  have HLW := Lib.hid (show w.heap.size < w2.heap.size by have := size_of HB2.out; have := HSZ.out; have := size_of HB01.out; have := HZ.out; omega)
  have nW1 : w.heap.size < w1.heap.size := by have := size_of HB01.out; have := HZ.out; omega
  have nW3 : w.heap.size < w3.heap.size := by have := HSZ3.out; have := HLW.out; omega
  have HIS' := Lib.hid (fun h => ints_fresh4 (HIS.out w6 HG6.out h) HFS.out HLW.out (.int .i64 2) (.slice S nS cS) (.slice T nT cT) (.int .i64 0))
  have HIT' := Lib.hid (fun h => ints_fresh4 (g := w.heap.size) (HT6.out h) HF.out (by have := HLW.out; have := HSZ3.out; have := HLA.out; omega) (.int .i64 2) (.slice S nS cS) (.slice T nT cT) (.int .i64 0))
  clear hB BRes hbR HA6 HR6 HG6 HIS HIK HT6 HBW BR0
  cases F
  · rw [Bool.false_and] at HO'
    go_region
    go_wp2
    revert GS GL HIS' HIT'
    generalize World.setCell _ _ _ = Wf
    intro GS GL HIS' HIT'
    have e0 : Wf.cell? ⟨w.heap.size, 0, none⟩ = some (.int .i64 2) := GS.out.cell 0
    have e1 : Wf.cell? ⟨w.heap.size, 1, none⟩ = some (.slice S nS cS) := GS.out.cell 1
    have e2 : Wf.cell? ⟨w.heap.size, 2, none⟩ = some (.slice T nT cT) := GS.out.cell 2
    have e3 : Wf.cell? ⟨w.heap.size, 3, none⟩ = some (.int .i64 0) := GS.out.cell 3
    refine bodyPost_ret (v := .tuple #[.agg #[.int .i64 2, .slice S nS cS, .slice T nT cT, .int .i64 0], .bool false]) (by simp [results, Tryz.results91, go_sem, e0, e1, e2, e3]) rfl ?_
    refine ⟨2, S, nS, cS, T, nT, cT, 0, by rw [HOE.out, HO'], GL.out.drew, fun a ha => ?_⟩
    obtain ⟨h0, h1, rfl⟩ := HV.out a (HOE.out.symm.trans ha)
    exact ⟨rfl, rfl, (HIS'.out h0).keep (Below.refl _ _).drew, (HIT'.out h1).keep (Below.refl _ _).drew, fun A n c e => Nat.le_trans (Nat.le_of_lt HLW.out) (HFS.out A n c e), fun A n c e => Nat.le_trans (by have := HLW.out; have := HSZ3.out; have := HLA.out; omega) (HF.out A n c e)⟩
  · rw [Bool.true_and] at HO'
    by_cases hM : M = 0
    · subst hM
      rw [decide_eq_true rfl] at HO'
      go_region
      go_wp2
      revert GS GL HIS' HIT'
      generalize World.setCell _ _ _ = Wf
      intro GS GL HIS' HIT'
      have e0 : Wf.cell? ⟨w.heap.size, 0, none⟩ = some (.int .i64 2) := GS.out.cell 0
      have e1 : Wf.cell? ⟨w.heap.size, 1, none⟩ = some (.slice S nS cS) := GS.out.cell 1
      have e2 : Wf.cell? ⟨w.heap.size, 2, none⟩ = some (.slice T nT cT) := GS.out.cell 2
      have e3 : Wf.cell? ⟨w.heap.size, 3, none⟩ = some (.int .i64 0) := GS.out.cell 3
      refine bodyPost_ret (v := .tuple #[.agg #[.int .i64 2, .slice S nS cS, .slice T nT cT, .int .i64 0], .bool true]) (by simp [results, Tryz.results91, go_sem, e0, e1, e2, e3]) rfl ?_
      refine ⟨2, S, nS, cS, T, nT, cT, 0, by rw [HOE.out, HO'], GL.out.drew, fun a ha => ?_⟩
      obtain ⟨h0, h1, rfl⟩ := HV.out a (HOE.out.symm.trans ha)
      exact ⟨rfl, rfl, (HIS'.out h0).keep (Below.refl _ _).drew, (HIT'.out h1).keep (Below.refl _ _).drew, fun A n c e => Nat.le_trans (Nat.le_of_lt HLW.out) (HFS.out A n c e), fun A n c e => Nat.le_trans (by have := HLW.out; have := HSZ3.out; have := HLA.out; omega) (HF.out A n c e)⟩
    · have hM' : decide (M = 0) = false := decide_eq_false hM
      rw [hM'] at HO'
      have hM1 : ((M : Int) == 0) = false := beq_eq_false_iff_ne.2 (by omega)
      go_region
      go_wp2
      revert GS GL HIS' HIT'
      generalize World.setCell _ _ _ = Wf
      intro GS GL HIS' HIT'
      have e0 : Wf.cell? ⟨w.heap.size, 0, none⟩ = some (.int .i64 2) := GS.out.cell 0
      have e1 : Wf.cell? ⟨w.heap.size, 1, none⟩ = some (.slice S nS cS) := GS.out.cell 1
      have e2 : Wf.cell? ⟨w.heap.size, 2, none⟩ = some (.slice T nT cT) := GS.out.cell 2
      have e3 : Wf.cell? ⟨w.heap.size, 3, none⟩ = some (.int .i64 0) := GS.out.cell 3
      refine bodyPost_ret (v := .tuple #[.agg #[.int .i64 2, .slice S nS cS, .slice T nT cT, .int .i64 0], .bool false]) (by simp [results, Tryz.results91, go_sem, e0, e1, e2, e3]) rfl ?_
      refine ⟨2, S, nS, cS, T, nT, cT, 0, by rw [HOE.out, HO'], GL.out.drew, fun a ha => ?_⟩
      obtain ⟨h0, h1, rfl⟩ := HV.out a (HOE.out.symm.trans ha)
      exact ⟨rfl, rfl, (HIS'.out h0).keep (Below.refl _ _).drew, (HIT'.out h1).keep (Below.refl _ _).drew, fun A n c e => Nat.le_trans (Nat.le_of_lt HLW.out) (HFS.out A n c e), fun A n c e => Nat.le_trans (by have := HLW.out; have := HSZ3.out; have := HLA.out; omega) (HF.out A n c e)⟩
set_option maxHeartbeats 4000000 in
set_option maxRecDepth 100000 in
theorem read_3 (s : ByteArray) (w : World) (hs : s.size < 4294967281) (hk : KindsOk w) (ht : TabOk w) (he : ErrsOk w) (hm : MaxOk w) (hw0 : wordAt (wordsOf s) 0 = Venn.wordB 3) :
    Calls Tryz.prog 91 #[.string s] w (ReadsTo (readSN 3 (wordsOf s)) w) := by
  have hX : (wordsOf s).getD 0 ⟨#[]⟩ = ⟨#[108, 101, 97, 115, 116]⟩ := bytes_word hw0
  have HKI := Lib.hid hk
  have HTB := Lib.hid ht
  have HER := Lib.hid he
  have HMX := Lib.hid hm
  have hal0 : Below w.heap.size w (w.alloc (.cells #[.int .i64 0, .slice none 0 0, .slice none 0 0, .int .i64 0] 32)) := by (repeat' (first | (with_reducible exact Below.refl _ _) | (with_reducible assumption) | (with_reducible refine Below.next ?_ (by with_reducible assumption)) | (with_reducible refine Below.drew ?_) | (with_reducible refine Below.laid ?_ _) | (with_reducible refine Below.setCell ?_ ?_ _) | (with_reducible refine size_of ?_) | (with_reducible refine Nat.le_succ_of_le ?_) | go_size))
  have BR0 := Lib.hid (Blk.new w 32 #[.int .i64 0, .slice none 0 0, .slice none 0 0, .int .i64 0])
  have hz : (w.alloc (.cells #[.int .i64 0, .slice none 0 0, .slice none 0 0, .int .i64 0] 32)).heap.size = w.heap.size + 1 := by simp
  have HS := Lib.hid hs
  have HSPL := Lib.hid (fun W (hW : MaxOk W) => strings_Split s ⟨#[32]⟩ W hW hs (by decide))
  have HLEN := Lib.hid (words_len s)
  have HALL := Lib.hid (words_size hs)
  clear hk ht he hm hs
  go_enter Tryz.func91, Tryz.ntmps91
  go_upto_region 1 with (fail)
  revert hal0 BR0 hz
  generalize w.alloc (.cells #[.int .i64 0, .slice none 0 0, .slice none 0 0, .int .i64 0] 32) = w0
  intro hal0 BR0 hz
  have HZ := Lib.hid hz
  have HB0 := Lib.hid hal0
  clear hal0 hz
  go_wp2_with fail
  refine (HSPL.out w0 (HMX.out.keep HB0.out)).mono ?_
  rintro e w1 ⟨rfl, hw1⟩
  have HW1 := Lib.hid (show w1 = w0.alloc (.cells ((wordsOf s).map Value.string).toArray 9) from hw1)
  clear hw1
  have HB01 := Lib.hid (show Below w0.heap.size w0 w1 by rw [HW1.out]; exact (Below.refl _ _).alloc (Nat.le_refl _) _)
  have HWA := Lib.hid (show WordsAt w1 w0.heap.size (wordsOf s) by rw [HW1.out]; exact words_at)
  have HRD0 := Lib.hid (show RdW w1 (w1.alloc (.cells #[.slice (some ⟨w0.heap.size, 0, none⟩) (Lib.countB s ⟨#[32]⟩ + 1) (Lib.countB s ⟨#[32]⟩ + 1), .bool true] 178)) w0.heap.size (wordsOf s) 0 true from ⟨(Below.refl _ _).alloc (Nat.le_refl _) _, some ⟨w0.heap.size, 0, none⟩, Lib.countB s ⟨#[32]⟩ + 1, by rw [Nat.sub_zero, HLEN.out]; exact Blk.new _ _ _, fun _ => rfl, by rw [HLEN.out]; omega, by rw [← HLEN.out]; exact words_maxlen HS.out⟩)
  have HN := Lib.hid (reader_next w1 _ _ (wordsOf s) 0 true HWA.out HRD0.out)
  have hlen0 : decide (0 < (wordsOf s).length) = true := by rw [HLEN.out]; simp
  rw [hlen0, Bool.and_true, hX] at HN
  go_wp2_with fail
  refine (HN.out).mono ?_
  rintro e w2 ⟨rfl, hR2, _⟩
  have HR2 := Lib.hid hR2
  have HB2 := Lib.hid (Below.next (Below.next HB0.out HB01.out) hR2.1)
  have hsz2 : w1.heap.size < w2.heap.size := by obtain ⟨_, P, c, hB, _⟩ := hR2; exact hB.lt
  have HSZ := Lib.hid hsz2
  clear hR2 hsz2 HN HRD0 HSPL hlen0
  have kld := Lib.hid (kinds_range (HKI.out.keep HB2.out))
  have q1 : ((⟨#[115, 117, 98]⟩ : ByteArray) != ⟨#[108, 101, 97, 115, 116]⟩) = true := by decide
  have q2 : ((⟨#[115, 97, 109, 101]⟩ : ByteArray) != ⟨#[108, 101, 97, 115, 116]⟩) = true := by decide
  have q3 : ((⟨#[108, 101, 97, 115, 116]⟩ : ByteArray) != ⟨#[108, 101, 97, 115, 116]⟩) = false := by decide
  go_upto_region 3 with (fail)
  go_wp2_with (refine wpList_load_mid rfl 137 _ rfl 0 0 rfl kindCells _ kld.out Tryz.underlying137 rfl kinds_size ?_)
  clear kld
  refine wp_loop_rounds 4 ?_
  rw [rounds_succ]
  go_wp2_with fail
  rw [rounds_succ]
  go_wp2_with fail
  rw [rounds_succ]
  go_wp2_with fail
  rw [rounds_succ]
  go_wp2_with fail
  have HS1 := Lib.hid (fun x hx => Nat.lt_trans (HALL.out x hx) (by decide : 4294967281 < 1099511627776))
  have HS2 := Lib.hid (fun x hx => Nat.le_of_lt (Nat.lt_trans (HALL.out x hx) (by decide : 4294967281 < 281474976710656)))
  have HTB1 := Lib.hid (HTB.out.keep (Below.next HB0.out HB01.out))
  have HER1 := Lib.hid (HER.out.keep (Below.next HB0.out HB01.out))
  refine (reader_term w1 _ _ (wordsOf s) 1 true HWA.out (by repeat (first | exact HR2.out | apply RdW.alloc)) HS1.out).mono ?_
  rintro e w3 ⟨S, nS, cS, rfl, hR3, hS3, hFS, hg3⟩
  have BK := (Blk.newAt (g := w2.heap.size + 3) (by simp) 136 #[.string ⟨#[108, 101, 97, 115, 116]⟩, .bool false, .bool true]).grown hg3 (by have := HSZ.out; simp; omega)
  have hb34 : Below w3.heap.size w3 (w3.alloc (.cells #[.int .i64 3, .slice S nS cS, .slice none 0 0, .int .i64 0] 32)) := (Below.refl _ _).alloc (Nat.le_refl _) _
  have HR4 := Lib.hid (hR3.alloc (.cells #[.int .i64 3, .slice S nS cS, .slice none 0 0, .int .i64 0] 32))
  have BA := Blk.new w3 32 #[.int .i64 3, .slice S nS cS, .slice none 0 0, .int .i64 0]
  have hsz3 : w2.heap.size + 4 ≤ w3.heap.size := by have := hg3.size; simpa using this
  obtain ⟨_, P3, c3, hB3, _⟩ := id hR3
  have HFS := Lib.hid (show FreshV w2 (.slice S nS cS) from fun A n c e => Nat.le_trans (by simp; omega) (hFS A n c e))
  clear hFS
  have HIS := Lib.hid (fun W (hW : w3.grownBy W (some w1.heap.size)) (h : isTerm (wordsOf s) 1 = true) => ints_gr (hS3 h) hB3 hW)
  have HIK := Lib.hid (fun W (hW : w3.grownBy W (some w1.heap.size)) => Blk.grown BK hW (by have := HSZ.out; simp; omega))
  clear hR3 hS3 hg3 BK hB3
  go_upto_region 8 with (fail)
  revert hb34 HR4 BA
  generalize (w3.alloc (.cells #[.int .i64 3, .slice S nS cS, .slice none 0 0, .int .i64 0] 32)) = w4
  intro hb34 HR4 BA
  have HSZ3 := Lib.hid hsz3
  have HLA := Lib.hid BA.lt
  have HA4 := Lib.hid BA
  have HG4 := Lib.hid (gr_below hb34 (some w1.heap.size))
  have BK := HIK.out w4 HG4.out
  have kt : w4.cell? ⟨w2.heap.size + 3, 1, none⟩ = some (.bool false) := BK.cell 1
  have kn : w4.cell? ⟨w2.heap.size + 3, 2, none⟩ = some (.bool true) := BK.cell 2
  clear hsz3 hb34 BA BK
  go_wp2_with fail
  refine (reader_number w1 w4 _ (wordsOf s) 2 _ HWA.out HR4.out HS2.out HTB1.out HER1.out).mono ?_
  rintro e w5 ⟨n, rfl, hR5, hN, hg⟩
  have HN := Lib.hid hN
  clear hN
  have nR : w1.heap.size < w3.heap.size := by have := HSZ3.out; have := HSZ.out; omega
  have BA := HA4.out.grown hg (by simp; omega)
  have aT : w5.cell? ⟨w3.heap.size, 3, none⟩ = some (.int .i64 0) := BA.cell 3
  have fT := BA.frozen 3
  have HG6 := Lib.hid (gr_set_new (gr_trans HG4.out hg) (Nat.le_refl _) 3 (.int .i64 n))
  have HR6 := Lib.hid (hR5.far nR 3 (.int .i64 n))
  have HA6 := Lib.hid (BA.set_ 3 (.int .i64 n))
  clear hR5 hg BA nR
  go_upto_region 12 with (fail)
  clear aT fT
  revert HG6 HR6 HA6
  generalize World.setCell _ _ _ = w6
  intro HG6 HR6 HA6
  obtain ⟨hbR, P, c, hB, _⟩ := HR6.out
  have HO := Lib.hid (readSN_some 3 (wordsOf s))
  have HV := Lib.hid (fun a (h : readSN 3 (wordsOf s) = some a) => readSN_val h)
  generalize hOE : readSN 3 (wordsOf s) = O at HO HV
  have HOE := Lib.hid hOE
  clear hOE
  have HO' := HO.out
  clear HO
  generalize ((true && isTerm (wordsOf s) 1) && isNum (wordsOf s) 2) = F at hB HO'
  generalize (wordsOf s).length - 3 = M at hB HO'
  have HBW := Lib.hid (Below.next (Below.next HB0.out HB01.out) hbR)
  have BRes := BR0.out.keep (Below.next HB01.out hbR)
  have r0 : w6.cell? ⟨w1.heap.size, 0, none⟩ = some (.slice P M c) := hB.cell 0
  have r1 : w6.cell? ⟨w1.heap.size, 1, none⟩ = some (.bool F) := hB.cell 1
  have a0 : w6.cell? ⟨w3.heap.size, 0, none⟩ = some (.int .i64 3) := HA6.out.cell 0
  have a1 : w6.cell? ⟨w3.heap.size, 1, none⟩ = some (.slice S nS cS) := HA6.out.cell 1
  have a2 : w6.cell? ⟨w3.heap.size, 2, none⟩ = some (.slice none 0 0) := HA6.out.cell 2
  have a3 : w6.cell? ⟨w3.heap.size, 3, none⟩ = some (.int .i64 n) := HA6.out.cell 3
  have z0 : w6.cell? ⟨w.heap.size, 0, none⟩ = some (.int .i64 0) := BRes.cell 0
  have y0 := BRes.frozen 0
  have z1 : w6.cell? ⟨w.heap.size, 1, none⟩ = some (.slice none 0 0) := BRes.cell 1
  have y1 := BRes.frozen 1
  have z2 : w6.cell? ⟨w.heap.size, 2, none⟩ = some (.slice none 0 0) := BRes.cell 2
  have y2 := BRes.frozen 2
  have z3 : w6.cell? ⟨w.heap.size, 3, none⟩ = some (.int .i64 0) := BRes.cell 3
  have y3 := BRes.frozen 3
  have GS := Lib.hid (BRes.set4 (.int .i64 3) (.slice S nS cS) (.slice none 0 0) (.int .i64 n))
  have GL := Lib.hid (below_set4 HBW.out (Nat.le_refl _) (.int .i64 3) (.slice S nS cS) (.slice none 0 0) (.int .i64 n))
  have HLW := Lib.hid (show w.heap.size < w2.heap.size by have := size_of HB2.out; have := HSZ.out; have := size_of HB01.out; have := HZ.out; omega)
  have nW1 : w.heap.size < w1.heap.size := by have := size_of HB01.out; have := HZ.out; omega
  have nW3 : w.heap.size < w3.heap.size := by have := HSZ3.out; have := HLW.out; omega
  have HIS' := Lib.hid (fun h => ints_fresh4 (HIS.out w6 HG6.out h) HFS.out HLW.out (.int .i64 3) (.slice S nS cS) (.slice none 0 0) (.int .i64 n))
  clear hB BRes hbR HA6 HR6 HG6 HIS HIK HBW BR0
  cases F
  · rw [Bool.false_and] at HO'
    go_region
    go_wp2
    revert GS GL HIS'
    generalize World.setCell _ _ _ = Wf
    intro GS GL HIS'
    have e0 : Wf.cell? ⟨w.heap.size, 0, none⟩ = some (.int .i64 3) := GS.out.cell 0
    have e1 : Wf.cell? ⟨w.heap.size, 1, none⟩ = some (.slice S nS cS) := GS.out.cell 1
    have e2 : Wf.cell? ⟨w.heap.size, 2, none⟩ = some (.slice none 0 0) := GS.out.cell 2
    have e3 : Wf.cell? ⟨w.heap.size, 3, none⟩ = some (.int .i64 n) := GS.out.cell 3
    refine bodyPost_ret (v := .tuple #[.agg #[.int .i64 3, .slice S nS cS, .slice none 0 0, .int .i64 n], .bool false]) (by simp [results, Tryz.results91, go_sem, e0, e1, e2, e3]) rfl ?_
    refine ⟨3, S, nS, cS, none, 0, 0, n, by rw [HOE.out, HO'], GL.out.drew, fun a ha => ?_⟩
    obtain ⟨h0, h1, rfl⟩ := HV.out a (HOE.out.symm.trans ha)
    exact ⟨rfl, HN.out h1, (HIS'.out h0).keep (Below.refl _ _).drew, IsInts.empty _, fun A n c e => Nat.le_trans (Nat.le_of_lt HLW.out) (HFS.out A n c e), fun _ _ _ e => by cases e⟩
  · rw [Bool.true_and] at HO'
    by_cases hM : M = 0
    · subst hM
      rw [decide_eq_true rfl] at HO'
      go_region
      go_wp2
      revert GS GL HIS'
      generalize World.setCell _ _ _ = Wf
      intro GS GL HIS'
      have e0 : Wf.cell? ⟨w.heap.size, 0, none⟩ = some (.int .i64 3) := GS.out.cell 0
      have e1 : Wf.cell? ⟨w.heap.size, 1, none⟩ = some (.slice S nS cS) := GS.out.cell 1
      have e2 : Wf.cell? ⟨w.heap.size, 2, none⟩ = some (.slice none 0 0) := GS.out.cell 2
      have e3 : Wf.cell? ⟨w.heap.size, 3, none⟩ = some (.int .i64 n) := GS.out.cell 3
      refine bodyPost_ret (v := .tuple #[.agg #[.int .i64 3, .slice S nS cS, .slice none 0 0, .int .i64 n], .bool true]) (by simp [results, Tryz.results91, go_sem, e0, e1, e2, e3]) rfl ?_
      refine ⟨3, S, nS, cS, none, 0, 0, n, by rw [HOE.out, HO'], GL.out.drew, fun a ha => ?_⟩
      obtain ⟨h0, h1, rfl⟩ := HV.out a (HOE.out.symm.trans ha)
      exact ⟨rfl, HN.out h1, (HIS'.out h0).keep (Below.refl _ _).drew, IsInts.empty _, fun A n c e => Nat.le_trans (Nat.le_of_lt HLW.out) (HFS.out A n c e), fun _ _ _ e => by cases e⟩
    · have hM' : decide (M = 0) = false := decide_eq_false hM
      rw [hM'] at HO'
      have hM1 : ((M : Int) == 0) = false := beq_eq_false_iff_ne.2 (by omega)
      go_region
      go_wp2
      revert GS GL HIS'
      generalize World.setCell _ _ _ = Wf
      intro GS GL HIS'
      have e0 : Wf.cell? ⟨w.heap.size, 0, none⟩ = some (.int .i64 3) := GS.out.cell 0
      have e1 : Wf.cell? ⟨w.heap.size, 1, none⟩ = some (.slice S nS cS) := GS.out.cell 1
      have e2 : Wf.cell? ⟨w.heap.size, 2, none⟩ = some (.slice none 0 0) := GS.out.cell 2
      have e3 : Wf.cell? ⟨w.heap.size, 3, none⟩ = some (.int .i64 n) := GS.out.cell 3
      refine bodyPost_ret (v := .tuple #[.agg #[.int .i64 3, .slice S nS cS, .slice none 0 0, .int .i64 n], .bool false]) (by simp [results, Tryz.results91, go_sem, e0, e1, e2, e3]) rfl ?_
      refine ⟨3, S, nS, cS, none, 0, 0, n, by rw [HOE.out, HO'], GL.out.drew, fun a ha => ?_⟩
      obtain ⟨h0, h1, rfl⟩ := HV.out a (HOE.out.symm.trans ha)
      exact ⟨rfl, HN.out h1, (HIS'.out h0).keep (Below.refl _ _).drew, IsInts.empty _, fun A n c e => Nat.le_trans (Nat.le_of_lt HLW.out) (HFS.out A n c e), fun _ _ _ e => by cases e⟩
end Go.Proofs.YtcloppcekbdbaaaGreatDoor

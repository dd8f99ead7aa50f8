/-
  CONTRACT of strconv.Atoi at this program; the library's two errors; WALK of atom.number.
-/
import Derived.Test.YtcloppcekbdbaaaGreatDoorAtoiL
import Derived.Test.YtcloppcekbdbaaaGreatDoorStrs
import Derived.Test.YtcloppcekbdbaaaGreatDoorLawF
import Derived.LaidLaws
namespace Go.Proofs.YtcloppcekbdbaaaGreatDoor
open Go.RowKit Go.ChangeShapes

/-- The library's error variable holds an error. -/
def ErrOk (g : Nat) (w : World) : Prop := ∃ e : Value, w.cell? ⟨g, 0, none⟩ = some e ∧ (e = .nilIface ∨ ∃ t p, e = .iface t p)
theorem ErrOk.keep {g : Nat} {w w' : World} (h : ErrOk g w) (hb : Below w.heap.size w w') : ErrOk g w' := by
  obtain ⟨m, h, hx⟩ := h
  exact ⟨m, cell_keep hb h, hx⟩
structure ErrsOk (w : World) : Prop where
  syn : ErrOk 7 w
  ran : ErrOk 8 w
theorem ErrsOk.keep {w w' : World} (h : ErrsOk w) (hb : Below w.heap.size w w') : ErrsOk w' := ⟨h.syn.keep hb, h.ran.keep hb⟩
theorem globSyn : Tryz.prog.globalNamed "strconv.ErrSyntax" = some 7 := by kernel_rfl
theorem globRan : Tryz.prog.globalNamed "strconv.ErrRange" = some 8 := by kernel_rfl
theorem synT : (Tryz.prog.globals[7]?).map (·.type) = some 26 := by kernel_rfl
theorem ranT : (Tryz.prog.globals[8]?).map (·.type) = some 26 := by kernel_rfl
theorem err_of_laid {l : List (String × DataW Unit)} {W : World} {x : String} {n : String} {d : DataW Unit} {g0 : Nat} (h : laidMetH Tryz.prog l W) (hm : (x, DataW.iface n d) ∈ l) (hf : (DataW.iface n d).handleName?.isNone = true)
    (hg : Tryz.prog.globalNamed x = some g0) (ht : (Tryz.prog.globals[g0]?).map (·.type) = some 26) : ErrOk g0 W := by
  obtain ⟨ps, hlv, _, _⟩ := (laidMetH_iff.1 h).1
  obtain ⟨g, t, cs, fuel, p, e1, e2, e3, e4⟩ := laidVars_mem hlv (List.mem_filter.2 ⟨hm, hf⟩)
  obtain rfl := Option.some.inj (hg.symm.trans e1)
  obtain rfl := Option.some.inj (ht.symm.trans e2)
  obtain ⟨f', u, v, hcs, _, _⟩ := iface_of_trod Tryz.underlying26 e4
  refine ⟨.iface u v, ?_, .inr ⟨u, v, rfl⟩⟩
  rw [World.var?_cell hg e3 0, ← Array.getElem?_toList, hcs]; rfl
theorem errs_of_laid {l : List (String × DataW Unit)} {W : World} (h : laidMetH Tryz.prog l W) (h1 : ("strconv.ErrSyntax", (Rows.laid_strconv_ErrSyntax : DataW Unit)) ∈ l) (h2 : ("strconv.ErrRange", (Rows.laid_strconv_ErrRange : DataW Unit)) ∈ l) : ErrsOk W :=
  ⟨err_of_laid h h1 (by kernel_rfl) globSyn synT, err_of_laid h h2 (by kernel_rfl) globRan ranT⟩

/-- The number that a text spells for the library. -/
def atoiO (l : List UInt8) : Option Int := match Lib.atoiAll l with | .ok v => some v | _ => none
theorem strconv_Atoi_some (s : ByteArray) (hs : s.size ≤ 281474976710656) (v : Int) (h : atoiO s.data.toList = some v) (w : World) : Calls Tryz.prog 184 #[.string s] w (Keeps (.tuple #[.int .i64 v, .nilIface]) w) := by
  have h' : Lib.atoiAll s.data.toList = .ok v := by
    unfold atoiO at h; split at h
    · rename_i x hx; rw [hx]; exact congrArg _ (Option.some.inj h)
    · cases h
  refine (Any.strconv_Atoi_ok atoiL s (by omega) v h' w).mono ?_
  rintro e W1 ⟨he, hW⟩
  refine ⟨he, ?_⟩
  rcases hW with rfl | ⟨t, rfl⟩
  · exact Below.refl _ _
  · exact Lib.bytesWorld_below _ _ _
theorem strconv_Atoi_none (s : ByteArray) (hs : s.size ≤ 281474976710656) (h : atoiO s.data.toList = none) (w : World) (he : ErrsOk w) : Calls Tryz.prog 184 #[.string s] w (fun e w' => ∃ n t p, e = .returned (.tuple #[.int .i64 n, .iface t p]) ∧ Below w.heap.size w w') := by
  obtain ⟨⟨e1, c1, x1⟩, ⟨e2, c2, x2⟩⟩ := he
  cases hx : Lib.atoiAll s.data.toList
  · unfold atoiO at h; rw [hx] at h; cases h
  · refine (Any.strconv_Atoi_syntax atoiL s hs hx e1 w c1 x1).mono ?_
    rintro e W1 ⟨N, he, _, _, hb⟩
    exact ⟨_, _, _, he, hb⟩
  · refine (Any.strconv_Atoi_range atoiL s hs hx e2 w c2 x2).mono ?_
    rintro e W1 ⟨N, he, _, _, hb⟩
    exact ⟨_, _, _, he, hb⟩
theorem atoiO_bounds {l : List UInt8} {v : Int} (h : atoiO l = some v) : -9223372036854775808 ≤ v ∧ v ≤ 9223372036854775807 := by
  unfold atoiO at h; split at h
  · rename_i x hx
    obtain rfl := Option.some.inj h
    obtain ⟨a, b⟩ := Lib.atoiAll_bounds hx
    omega
  · cases h

theorem bytes_beq (a b : ByteArray) : (a == b) = decide (a = b) := by
  cases a with | mk x => cases b with | mk y =>
  show (x == y) = _
  by_cases h : x = y
  · subst h; simp
  · rw [decide_eq_false (by intro e; exact h (ByteArray.mk.inj e))]; simpa using h
theorem bytes_of_toList {a b : ByteArray} (h : a.toList = b.toList) : a = b := by
  have : a.data.toList = b.data.toList := by simpa [ByteArray.toList_eq] using h
  cases a with | mk x => cases b with | mk y =>
  exact congrArg _ (Array.toList_inj.1 this)
/-- The number of a word. -/
def numO (l : List UInt8) : Option Int := match atoiO l with | some v => if Lib.itoa v = l ∧ -100 < v ∧ v < 100 then some v else none | none => none
set_option maxHeartbeats 2000000 in
set_option maxRecDepth 100000 in
theorem atom_number_some (s : ByteArray) (hs : s.size ≤ 281474976710656) (v : Int) (h : numO s.data.toList = some v) (w : World) (ht : TabOk w) : Calls Tryz.prog 163 #[.string s] w (Keeps (.tuple #[.int .i64 v, .bool true]) w) := by
  unfold numO at h
  cases ha : atoiO s.data.toList with
  | none => rw [ha] at h; cases h
  | some u =>
  rw [ha] at h
  have h' : (if Lib.itoa u = s.data.toList ∧ -100 < u ∧ u < 100 then some u else none) = some v := h
  clear h
  split at h'
  case isFalse => cases h'
  rename_i hc
  obtain rfl := Option.some.inj h'
  clear h'
  obtain ⟨hi, h1, h2⟩ := hc
  obtain ⟨b1, b2⟩ := atoiO_bounds ha
  have HA := Lib.hid (strconv_Atoi_some s hs u ha w)
  have HI := Lib.hid (fun w => strconv_Itoa u b1 b2 w)
  have hts : (⟨(Lib.itoa u).toArray⟩ : ByteArray) = s := by rw [hi]
  rw [hts] at HI
  have HT := Lib.hid ht
  clear hi ha hts ht
  have q0 : (s == s) = true := by rw [bytes_beq]; simp
  go_enter Tryz.func163, Tryz.ntmps163
  go_wp2_with fail
  refine (HA.out).mono ?_
  rintro e w1 ⟨rfl, hb1⟩
  go_wp2_with fail
  refine (HI.out w1 (HT.out.keep hb1)).mono ?_
  rintro e w2 ⟨rfl, hb2⟩
  have hq := Below.next hb1 hb2
  go_wp2
  go_ret2
  exact ⟨rfl, hq⟩
set_option maxHeartbeats 2000000 in
set_option maxRecDepth 100000 in
theorem atom_number_none (s : ByteArray) (hs : s.size ≤ 281474976710656) (h : numO s.data.toList = none) (w : World) (ht : TabOk w) (he : ErrsOk w) : Calls Tryz.prog 163 #[.string s] w (fun e w' => ∃ m, e = .returned (.tuple #[.int .i64 m, .bool false]) ∧ Below w.heap.size w w') := by
  unfold numO at h
  cases ha : atoiO s.data.toList with
  | none =>
    have HA := Lib.hid (strconv_Atoi_none s hs ha w he)
    clear h ha he ht
    go_enter Tryz.func163, Tryz.ntmps163
    go_wp2_with fail
    refine (HA.out).mono ?_
    rintro e w1 ⟨n, t, p, rfl, hb1⟩
    go_wp2
    go_ret2
    exact ⟨n, rfl, hb1⟩
  | some u =>
    rw [ha] at h
    have h' : (if Lib.itoa u = s.data.toList ∧ -100 < u ∧ u < 100 then some u else none) = none := h
    clear h
    have hc : ¬ (Lib.itoa u = s.data.toList ∧ -100 < u ∧ u < 100) := fun hc => by rw [if_pos hc] at h'; cases h'
    clear h' he
    obtain ⟨b1, b2⟩ := atoiO_bounds ha
    have HA := Lib.hid (strconv_Atoi_some s hs u ha w)
    have HI := Lib.hid (fun w => strconv_Itoa u b1 b2 w)
    have HT := Lib.hid ht
    have hts : ((⟨(Lib.itoa u).toArray⟩ : ByteArray) == s) = decide (Lib.itoa u = s.data.toList) := by
      rw [bytes_beq]
      refine decide_eq_decide.2 ⟨fun h => by rw [← h], fun h => ?_⟩
      rw [h]
    have htl : ((⟨(Lib.itoa u).toArray⟩ : ByteArray).toList == s.toList) = decide (Lib.itoa u = s.data.toList) := by
      rw [← hts, bytes_beq]
      by_cases e : (⟨(Lib.itoa u).toArray⟩ : ByteArray) = s
      · rw [e]; simp
      · rw [decide_eq_false e]; simp only [beq_eq_false_iff_ne, ne_eq]
        intro k; apply e; exact bytes_of_toList k
    clear ha ht
    generalize (⟨(Lib.itoa u).toArray⟩ : ByteArray) = S at HI hts htl
    by_cases hi : Lib.itoa u = s.data.toList
    · rw [decide_eq_true hi] at hts htl
      by_cases h1 : -100 < u
      · have h2 : ¬ u < 100 := fun h2 => hc ⟨hi, h1, h2⟩
        clear hi hc
        go_enter Tryz.func163, Tryz.ntmps163
        go_wp2_with fail
        refine (HA.out).mono ?_
        rintro e w1 ⟨rfl, hb1⟩
        go_wp2_with fail
        refine (HI.out w1 (HT.out.keep hb1)).mono ?_
        rintro e w2 ⟨rfl, hb2⟩
        have hq := Below.next hb1 hb2
        go_wp2
        go_ret2
        exact ⟨u, by simp [h2], hq⟩
      · have h1' : decide (-100 < u) = false := decide_eq_false h1
        clear hi hc
        go_enter Tryz.func163, Tryz.ntmps163
        go_wp2_with fail
        refine (HA.out).mono ?_
        rintro e w1 ⟨rfl, hb1⟩
        go_wp2_with fail
        refine (HI.out w1 (HT.out.keep hb1)).mono ?_
        rintro e w2 ⟨rfl, hb2⟩
        have hq := Below.next hb1 hb2
        go_wp2
        go_ret2
        exact ⟨u, rfl, hq⟩
    · rw [decide_eq_false hi] at hts htl
      clear hi hc
      go_enter Tryz.func163, Tryz.ntmps163
      go_wp2_with fail
      refine (HA.out).mono ?_
      rintro e w1 ⟨rfl, hb1⟩
      go_wp2_with fail
      refine (HI.out w1 (HT.out.keep hb1)).mono ?_
      rintro e w2 ⟨rfl, hb2⟩
      have hq := Below.next hb1 hb2
      go_wp2
      go_ret2
      exact ⟨u, rfl, hq⟩
end Go.Proofs.YtcloppcekbdbaaaGreatDoor

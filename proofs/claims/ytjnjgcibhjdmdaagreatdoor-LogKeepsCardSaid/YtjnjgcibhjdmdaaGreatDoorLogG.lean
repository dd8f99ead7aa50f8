/-
  THE WALKS of package log, with steps that fail and bytes that are safe: New, step, Bytes, Safe, Open, Fail, Sync. (Written by gen_logg.py.)
-/
import Derived.Test.YtjnjgcibhjdmdaaGreatDoorLogAlone
import Derived.Test.YtjnjgcibhjdmdaaGreatDoorCloneF
import Derived.Test.YtjnjgcibhjdmdaaGreatDoorCoreSome
import Derived.Test.YtjnjgcibhjdmdaaGreatDoorAtomText
import Derived.Deep.AppendLies
import Derived.Deep.RegionLaw
import Derived.Deep.DeepCutAuto
namespace Go.Proofs.YtjnjgcibhjdmdaaGreatDoor
open Go.RowKit

/-- A row of formulas that stands whatever becomes of block j. -/
def LClC (C : Nat → Prop) (w : World) (j : Nat) (A : Option Addr) (p : List FV) : Prop := ∀ w', But (fun b => b = j ∨ C b) w w' → Rd w' A (fCells p) ∧ FOk w' p
theorem But.orl {C : Nat → Prop} {w w' : World} {j : Nat} (h : But (fun b => b = j) w w') : But (fun b => b = j ∨ C b) w w' := h.wide (fun _ e => .inl e)
theorem LClC.step {C : Nat → Prop} {w w' : World} {j : Nat} {A : Option Addr} {p : List FV} (h : LClC C w j A p) (hb : But (fun b => b = j) w w') : LClC C w' j A p := fun w'' k => h w'' (hb.orl.trans k)
theorem LClC.keep {C : Nat → Prop} {w w' : World} {j : Nat} {A : Option Addr} {p : List FV} (h : LClC C w j A p) (hb : Below w.heap.size w w') : LClC C w' j A p := h.step (But.of_below hb)
theorem LClC.forms {C : Nat → Prop} {w : World} {j : Nat} {A : Option Addr} {p : List FV} {c : Nat} (h : LClC C w j A p) (h1 : p.length ≤ c) (h2 : c ≤ maxLen) : IsForms w (.slice A p.length c) (p.map (fun x : FV => x.1)) :=
  forms_close (h w (But.refl _ _)).1 (h w (But.refl _ _)).2 h1 h2
/-- THE LOG LIES AT j: what was said stands whatever becomes of the log's own cells, and of the blocks of C. -/
def LogC (C : Nat → Prop) (w : World) (j : Nat) (u : Int) (ls : List Venn.Form) (bs : ByteArray) (safe : Nat) (left : Int) (st : Bool) : Prop :=
  ∃ A c p, Blk w j 61 #[.int .i64 u, .slice A p.length c, .string bs, .int .i64 safe, .int .i64 left, .bool st] ∧ p.map (fun x : FV => x.1) = ls ∧ p.length ≤ c ∧ c ≤ maxLen ∧ LClC C w j A p
abbrev LogG (w : World) (j : Nat) (u : Int) (ls : List Venn.Form) (bs : ByteArray) (safe : Nat) (left : Int) (st : Bool) : Prop := LogC (fun _ => False) w j u ls bs safe left st
theorem LogC.keep {C : Nat → Prop} {w w' : World} {j : Nat} {u : Int} {ls : List Venn.Form} {bs : ByteArray} {safe : Nat} {left : Int} {st : Bool} (h : LogC C w j u ls bs safe left st) (hb : Below w.heap.size w w') : LogC C w' j u ls bs safe left st := by
  obtain ⟨A, c, p, h1, h2, h3, h4, h5⟩ := h
  exact ⟨A, c, p, h1.keep hb, h2, h3, h4, h5.keep hb⟩
theorem LogG.keep {w w' : World} {j : Nat} {u : Int} {ls : List Venn.Form} {bs : ByteArray} {safe : Nat} {left : Int} {st : Bool} (h : LogG w j u ls bs safe left st) (hb : Below w.heap.size w w') : LogG w' j u ls bs safe left st := LogC.keep h hb
theorem Blk.cells6 {w : World} {g : Nat} {t : TypeId} {x0 x1 x2 x3 x4 x5 : Value} (h : Blk w g t #[x0, x1, x2, x3, x4, x5]) :
    w.cell? ⟨g, 0, none⟩ = some x0 ∧ w.cell? ⟨g, 1, none⟩ = some x1 ∧ w.cell? ⟨g, 2, none⟩ = some x2 ∧ w.cell? ⟨g, 3, none⟩ = some x3 ∧ w.cell? ⟨g, 4, none⟩ = some x4 ∧ w.cell? ⟨g, 5, none⟩ = some x5 :=
  ⟨h.cell 0, h.cell 1, h.cell 2, h.cell 3, h.cell 4, h.cell 5⟩
theorem logC_New (C : Nat → Prop) (u : Int) (w : World) (hu : Venn.things u = true) : Calls Tryz.prog 6 #[.int .i64 u] w (fun e w' => e = .returned (.tuple #[.pointer (some ⟨w.heap.size, 0, none⟩), .nilIface]) ∧ Below w.heap.size w w' ∧ LogC C w' w.heap.size u [] ⟨#[]⟩ 0 (-1) false) := by
  have HU := Lib.hid hu
  clear hu
  go_enter Tryz.func6, Tryz.ntmps6
  go_wp2_with (go_at_call 24; refine (sets_Things _ _).mono ?_; rintro e w' ⟨rfl, rfl⟩; rw [HU.out])
  go_ret2
  exact ⟨rfl, by (repeat' (first | (with_reducible exact Below.refl _ _) | (with_reducible assumption) | (with_reducible refine Below.next ?_ (by with_reducible assumption)) | (with_reducible refine Below.drew ?_) | (with_reducible refine Below.laid ?_ _) | (with_reducible refine Below.setCell ?_ ?_ _) | (with_reducible refine size_of ?_) | (with_reducible refine Nat.le_succ_of_le ?_) | go_size)), none, 0, [], Blk.new w _ _, rfl, Nat.le_refl _, by simp [maxLen], fun _ _ => ⟨Rd.nil _ _, fun x hx => by cases hx⟩⟩
theorem logG_New (u : Int) (w : World) (hu : Venn.things u = true) : Calls Tryz.prog 6 #[.int .i64 u] w (fun e w' => e = .returned (.tuple #[.pointer (some ⟨w.heap.size, 0, none⟩), .nilIface]) ∧ Below w.heap.size w w' ∧ LogG w' w.heap.size u [] ⟨#[]⟩ 0 (-1) false) := logC_New _ u w hu
theorem logG_New_bad (u : Int) (w : World) (hu : Venn.things u = false) : Calls Tryz.prog 6 #[.int .i64 u] w (Pure (.tuple #[.pointer none, .iface 59 (.int .i64 1)]) w) := by
  have HU := Lib.hid hu
  clear hu
  go_enter Tryz.func6, Tryz.ntmps6
  go_wp2_with (go_at_call 24; refine (sets_Things _ _).mono ?_; rintro e w' ⟨rfl, rfl⟩; rw [HU.out])
  go_ret2
  exact ⟨rfl, rfl⟩
theorem logG_Bytes {C : Nat → Prop} (j : Nat) (u : Int) (ls : List Venn.Form) (bs : ByteArray) (safe : Nat) (left : Int) (st : Bool) (w : World) (h : LogC C w j u ls bs safe left st) : Calls Tryz.prog 17 #[.pointer (some ⟨j, 0, none⟩)] w (Pure (.int .i64 (bs.size : Nat)) w) := by
  obtain ⟨A, c, p, h1, -, -, -, -⟩ := h
  obtain ⟨x0, x1, x2, x3, x4, x5⟩ := h1.cells6
  go_enter Tryz.func17, Tryz.ntmps17
  go_wp2
  go_ret
  exact ⟨rfl, rfl⟩
theorem logG_Safe {C : Nat → Prop} (j : Nat) (u : Int) (ls : List Venn.Form) (bs : ByteArray) (safe : Nat) (left : Int) (st : Bool) (w : World) (h : LogC C w j u ls bs safe left st) : Calls Tryz.prog 18 #[.pointer (some ⟨j, 0, none⟩)] w (Pure (.int .i64 (safe : Nat)) w) := by
  obtain ⟨A, c, p, h1, -, -, -, -⟩ := h
  obtain ⟨x0, x1, x2, x3, x4, x5⟩ := h1.cells6
  go_enter Tryz.func18, Tryz.ntmps18
  go_wp2
  go_ret
  exact ⟨rfl, rfl⟩
set_option maxHeartbeats 1000000 in
theorem logG_Open {C : Nat → Prop} (j : Nat) (u : Int) (ls : List Venn.Form) (bs : ByteArray) (safe : Nat) (left : Int) (st : Bool) (w : World) (h : LogC C w j u ls bs safe left st) (hk : KindsOk w) (hok : ∀ f ∈ ls, Venn.formChk f = 0) (hu : Venn.things u = true) :
    Calls Tryz.prog 11 #[.pointer (some ⟨j, 0, none⟩)] w (Keeps (.bool (Venn.openV ls u)) w) := by
  obtain ⟨A, c, p, h1, h2, h3, h4, h5⟩ := h
  subst h2
  obtain ⟨x0, x1, x2, x3, x4, x5⟩ := h1.cells6
  have HCS := Lib.hid (core_Some _ _ u w.drew ((h5.forms h3 h4).keep (Below.refl _ w).drew) (hk.keep (Below.refl _ w).drew) hok hu)
  clear h1 h3 h4 h5 hk hok hu
  go_enter Tryz.func11, Tryz.ntmps11
  go_upto_region 1 with (fail)
  go_region_law (go_simp; go_at_call 28; refine (HCS.out).mono ?_; rintro e w2 ⟨rfl, hb2⟩)
  all_goals
    go_wp2
    go_ret
    exact ⟨rfl, Below.next (Below.refl _ w).drew hb2⟩
/-- What a step leaves. -/
def StepPost (j : Nat) (x0 x1 x2 x3 : Value) (left : Int) (w : World) (e : Ending) (w' : World) : Prop :=
  e = .returned (.bool (left == 0)) ∧ But (fun b => b = j) w w' ∧ Blk w' j 61 #[x0, x1, x2, x3, .int .i64 (max (-1) (left - 1)), .bool (left == 0)]
theorem StepPost_def (j : Nat) (x0 x1 x2 x3 : Value) (left : Int) (w : World) : StepPost j x0 x1 x2 x3 left w = fun e w' => e = .returned (.bool (left == 0)) ∧ But (fun b => b = j) w w' ∧ Blk w' j 61 #[x0, x1, x2, x3, .int .i64 (max (-1) (left - 1)), .bool (left == 0)] := rfl
set_option maxHeartbeats 1000000 in
set_option maxRecDepth 100000 in
theorem logG_step (j : Nat) (x0 x1 x2 x3 : Value) (left : Int) (w : World) (h : Blk w j 61 #[x0, x1, x2, x3, .int .i64 left, .bool false]) (hl : -1 ≤ left) (hm : left ≤ 9223372036854775807) :
    Calls Tryz.prog 30 #[.pointer (some ⟨j, 0, none⟩)] w (StepPost j x0 x1 x2 x3 left w) := by
  obtain ⟨c0, c1, c2, c3, c4, c5⟩ := h.cells6
  have z4 := h.frozen 4
  have z5 := h.frozen 5
  have hmax : IntKind.i64.wrap (left - 1) = left - 1 := IntWalk.i64_in _ (by omega)
  have G1 := h.set_ 5 (.bool (left == 0))
  rw [show (#[x0, x1, x2, x3, .int .i64 left, .bool false] : Array Value).setIfInBounds 5 (.bool (left == 0)) = #[x0, x1, x2, x3, .int .i64 left, .bool (left == 0)] by simp] at G1
  have G2 := G1.set_ 4 (.int .i64 (max (-1) (left - 1)))
  rw [show (#[x0, x1, x2, x3, .int .i64 left, .bool (left == 0)] : Array Value).setIfInBounds 4 (.int .i64 (max (-1) (left - 1))) = #[x0, x1, x2, x3, .int .i64 (max (-1) (left - 1)), .bool (left == 0)] by simp] at G2
  have GB := ((But.refl (fun b => b = j) w).set_ (p := ⟨j, 5, none⟩) rfl (.bool (left == 0))).set_ (p := ⟨j, 4, none⟩) rfl (.int .i64 (max (-1) (left - 1)))
  clear G1 h hl hm
  generalize hM : max (-1 : Int) (left - 1) = M at G2 GB
  have HM := Lib.hid hM
  have HG := Lib.hid (And.intro GB G2)
  clear GB G2
  go_enter Tryz.func30, Tryz.ntmps30
  go_wp2
  go_ret
  exact ⟨rfl, HG.out.1, by rw [HM.out]; exact HG.out.2⟩
set_option maxHeartbeats 1000000 in
set_option maxRecDepth 100000 in
theorem logG_Fail {C : Nat → Prop} (j : Nat) (u : Int) (ls : List Venn.Form) (bs : ByteArray) (safe : Nat) (left : Int) (st : Bool) (n : Int) (w : World) (h : LogC C w j u ls bs safe left st) :
    Calls Tryz.prog 19 #[.pointer (some ⟨j, 0, none⟩), .int .i64 n] w (fun e w' => e = .returned (.tuple #[]) ∧ But (fun b => b = j) w w' ∧ LogC C w' j u ls bs safe (max (-1) n) st) := by
  obtain ⟨A, c, p, h1, h2, h3, h4, h5⟩ := h
  obtain ⟨x0, x1, x2, x3, x4, x5⟩ := h1.cells6
  have z4 := h1.frozen 4
  have G1 := h1.set_ 4 (.int .i64 (max (-1) n))
  rw [show (#[.int .i64 u, .slice A p.length c, .string bs, .int .i64 safe, .int .i64 left, .bool st] : Array Value).setIfInBounds 4 (.int .i64 (max (-1) n)) = #[.int .i64 u, .slice A p.length c, .string bs, .int .i64 safe, .int .i64 (max (-1) n), .bool st] by simp] at G1
  have GB := But.set_ (C := fun b => b = j) (But.refl (fun b => b = j) w) (p := ⟨j, 4, none⟩) rfl (.int .i64 (max (-1) n))
  have HG := Lib.hid (And.intro GB (show LogC C _ j u ls bs safe (max (-1) n) st from ⟨A, c, p, G1, h2, h3, h4, h5.step GB⟩))
  clear G1 GB h1 h2 h3 h4 h5
  generalize hM : max (-1 : Int) n = M at HG ⊢
  go_enter Tryz.func19, Tryz.ntmps19
  go_wp2
  exact bodyPost_end (results_none rfl _ _ _) rfl ⟨rfl, HG.out⟩
/-- What Sync gives. -/
def SyncPostC (C : Nat → Prop) (j : Nat) (u : Int) (ls : List Venn.Form) (bs : ByteArray) (safe : Nat) (left : Int) (w : World) (e : Ending) (w' : World) : Prop :=
  But (fun b => b = j) w w' ∧ ((left = 0 ∧ e = .returned (.iface 59 (.int .i64 6)) ∧ LogC C w' j u ls bs safe (-1) true) ∨ (left ≠ 0 ∧ e = .returned .nilIface ∧ LogC C w' j u ls bs bs.size (max (-1) (left - 1)) false))
abbrev SyncPost (j : Nat) (u : Int) (ls : List Venn.Form) (bs : ByteArray) (safe : Nat) (left : Int) (w : World) (e : Ending) (w' : World) : Prop := SyncPostC (fun _ => False) j u ls bs safe left w e w'
theorem logG_Sync_stopped {C : Nat → Prop} (j : Nat) (u : Int) (ls : List Venn.Form) (bs : ByteArray) (safe : Nat) (left : Int) (w : World) (h : LogC C w j u ls bs safe left true) :
    Calls Tryz.prog 8 #[.pointer (some ⟨j, 0, none⟩)] w (Pure (.iface 59 (.int .i64 6)) w) := by
  obtain ⟨A, c, p, h1, -, -, -, -⟩ := h
  obtain ⟨x0, x1, x2, x3, x4, x5⟩ := h1.cells6
  go_enter Tryz.func8, Tryz.ntmps8
  go_wp2
  go_ret
  exact ⟨rfl, rfl⟩
set_option maxHeartbeats 2000000 in
set_option maxRecDepth 100000 in
theorem logG_Sync {C : Nat → Prop} (j : Nat) (u : Int) (ls : List Venn.Form) (bs : ByteArray) (safe : Nat) (left : Int) (w : World) (h : LogC C w j u ls bs safe left false) (hl : -1 ≤ left) (hm : left ≤ 9223372036854775807) :
    Calls Tryz.prog 8 #[.pointer (some ⟨j, 0, none⟩)] w (SyncPostC C j u ls bs safe left w) := by
  obtain ⟨A, c, p, h1, h2, h3, h4, h5⟩ := h
  obtain ⟨x0, x1, x2, x3, x4, x5⟩ := h1.cells6
  have HS := Lib.hid (logG_step j _ _ _ _ left w h1 hl hm)
  have HF := Lib.hid (And.intro h2 (And.intro h3 (And.intro h4 h5)))
  clear h1 h2 h3 h4 h5 hl hm
  by_cases h0 : left = 0
  · subst h0
    go_enter Tryz.func8, Tryz.ntmps8
    go_wp2_with fail
    refine (HS.out).mono ?_
    rintro e w1 ⟨rfl, hb, hB⟩
    have HH := Lib.hid (show LogC C w1 j u ls bs safe (-1) true from ⟨A, c, p, hB, HF.out.1, HF.out.2.1, HF.out.2.2.1, HF.out.2.2.2.step hb⟩)
    have HB := Lib.hid hb
    clear hb hB x0 x1 x2 x3 x4 x5
    go_wp2
    go_ret
    exact ⟨HB.out, .inl ⟨rfl, rfl, HH.out⟩⟩
  · have h0' : (left == 0) = false := beq_eq_false_iff_ne.2 h0
    have HN := Lib.hid h0
    clear h0
    go_enter Tryz.func8, Tryz.ntmps8
    go_wp2_with fail
    refine (HS.out).mono ?_
    rw [StepPost_def, h0']
    rintro e w1 ⟨rfl, hb, hB⟩
    generalize hM : max (-1 : Int) (left - 1) = M at hB
    have HM := Lib.hid hM
    clear hM
    clear x0 x1 x2 x3 x4 x5
    obtain ⟨x0, x1, x2, x3, x4, x5⟩ := hB.cells6
    have z3 := hB.frozen 3
    have G1 := hB.set_ 3 (.int .i64 (bs.size : Nat))
    rw [show (#[.int .i64 u, .slice A p.length c, .string bs, .int .i64 safe, .int .i64 M, .bool false] : Array Value).setIfInBounds 3 (.int .i64 (bs.size : Nat)) = #[.int .i64 u, .slice A p.length c, .string bs, .int .i64 (bs.size : Nat), .int .i64 M, .bool false] by simp] at G1
    have GB := But.set_ (C := fun b => b = j) hb (p := ⟨j, 3, none⟩) rfl (.int .i64 (bs.size : Nat))
    have HG := Lib.hid (And.intro GB (show LogC C _ j u ls bs bs.size M false from ⟨A, c, p, G1, HF.out.1, HF.out.2.1, HF.out.2.2.1, HF.out.2.2.2.step GB⟩))
    clear G1 GB hB hb
    go_wp2
    go_ret
    exact ⟨HG.out.1, .inr ⟨HN.out, rfl, by rw [HM.out]; exact HG.out.2⟩⟩
end Go.Proofs.YtjnjgcibhjdmdaaGreatDoor

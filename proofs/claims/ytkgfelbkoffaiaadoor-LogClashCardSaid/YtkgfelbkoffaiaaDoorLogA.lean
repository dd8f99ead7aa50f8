/-
  THE WALKS of package log: New, step, Bytes, Open, All.
-/
import Derived.Test.YtkgfelbkoffaiaaDoorLogAlone
import Derived.Test.YtkgfelbkoffaiaaDoorCloneF
import Derived.Test.YtkgfelbkoffaiaaDoorCoreSome
import Derived.Test.YtkgfelbkoffaiaaDoorAtomText
import Derived.Deep.AppendLies
import Derived.Deep.RegionLaw
import Derived.Deep.DeepCutAuto
namespace Go.Proofs.YtkgfelbkoffaiaaDoor
open Go.RowKit

/-- The log lies at j: it does not stop, and nothing is synced. -/
def LogAt (w : World) (j : Nat) (u : Int) (ls : List Venn.Form) (bs : ByteArray) : Prop :=
  ∃ A c, Blk w j 88 #[.int .i64 u, .slice A ls.length c, .string bs, .int .i64 0, .int .i64 (-1), .bool false] ∧ IsForms w (.slice A ls.length c) ls
theorem LogAt.keep {w w' : World} {j : Nat} {u : Int} {ls : List Venn.Form} {bs : ByteArray} (h : LogAt w j u ls bs) (hb : Below w.heap.size w w') : LogAt w' j u ls bs := by
  obtain ⟨A, c, h1, h2⟩ := h
  exact ⟨A, c, h1.keep hb, h2.keep hb⟩
theorem Blk.cells6 {w : World} {g : Nat} {t : TypeId} {x0 x1 x2 x3 x4 x5 : Value} (h : Blk w g t #[x0, x1, x2, x3, x4, x5]) :
    w.cell? ⟨g, 0, none⟩ = some x0 ∧ w.cell? ⟨g, 1, none⟩ = some x1 ∧ w.cell? ⟨g, 2, none⟩ = some x2 ∧ w.cell? ⟨g, 3, none⟩ = some x3 ∧ w.cell? ⟨g, 4, none⟩ = some x4 ∧ w.cell? ⟨g, 5, none⟩ = some x5 :=
  ⟨h.cell 0, h.cell 1, h.cell 2, h.cell 3, h.cell 4, h.cell 5⟩
theorem log_New (u : Int) (w : World) (hu : Venn.things u = true) : Calls Tryd.prog 16 #[.int .i64 u] w (fun e w' => e = .returned (.tuple #[.pointer (some ⟨w.heap.size, 0, none⟩), .nilIface]) ∧ Below w.heap.size w w' ∧ LogAt w' w.heap.size u [] ⟨#[]⟩) := by
  have HU := Lib.hid hu
  clear hu
  go_enter Tryd.func16, Tryd.ntmps16
  go_wp2_with (go_at_call 39; refine (sets_Things _ _).mono ?_; rintro e w' ⟨rfl, rfl⟩; rw [HU.out])
  go_ret2
  exact ⟨rfl, by (repeat' (first | (with_reducible exact Below.refl _ _) | (with_reducible assumption) | (with_reducible refine Below.next ?_ (by with_reducible assumption)) | (with_reducible refine Below.drew ?_) | (with_reducible refine Below.laid ?_ _) | (with_reducible refine Below.setCell ?_ ?_ _) | (with_reducible refine size_of ?_) | (with_reducible refine Nat.le_succ_of_le ?_) | go_size)), none, 0, Blk.new w _ _, IsForms.nil _⟩
theorem log_New_bad (u : Int) (w : World) (hu : Venn.things u = false) : Calls Tryd.prog 16 #[.int .i64 u] w (Pure (.tuple #[.pointer none, .iface 62 (.int .i64 1)]) w) := by
  have HU := Lib.hid hu
  clear hu
  go_enter Tryd.func16, Tryd.ntmps16
  go_wp2_with (go_at_call 39; refine (sets_Things _ _).mono ?_; rintro e w' ⟨rfl, rfl⟩; rw [HU.out])
  go_ret2
  exact ⟨rfl, rfl⟩
theorem log_Bytes (j : Nat) (u : Int) (ls : List Venn.Form) (bs : ByteArray) (w : World) (h : LogAt w j u ls bs) : Calls Tryd.prog 18 #[.pointer (some ⟨j, 0, none⟩)] w (Pure (.int .i64 (bs.size : Nat)) w) := by
  obtain ⟨A, c, h1, _⟩ := h
  obtain ⟨x0, x1, x2, x3, x4, x5⟩ := h1.cells6
  go_enter Tryd.func18, Tryd.ntmps18
  go_wp2
  go_ret
  exact ⟨rfl, rfl⟩
set_option maxHeartbeats 1000000 in
theorem log_Open (j : Nat) (u : Int) (ls : List Venn.Form) (bs : ByteArray) (w : World) (h : LogAt w j u ls bs) (hk : KindsOk w) (hok : ∀ f ∈ ls, Venn.formChk f = 0) (hu : Venn.things u = true) :
    Calls Tryd.prog 20 #[.pointer (some ⟨j, 0, none⟩)] w (Keeps (.bool (Venn.openV ls u)) w) := by
  obtain ⟨A, c, h1, h2⟩ := h
  obtain ⟨x0, x1, x2, x3, x4, x5⟩ := h1.cells6
  have HCS := Lib.hid (core_Some _ ls u w.drew (h2.keep (Below.refl _ w).drew) (hk.keep (Below.refl _ w).drew) hok hu)
  clear h1 h2 hk hok hu
  go_enter Tryd.func20, Tryd.ntmps20
  go_upto_region 1 with (fail)
  go_region_law (go_simp; go_at_call 42; refine (HCS.out).mono ?_; rintro e w2 ⟨rfl, hb2⟩)
  all_goals
    go_wp2
    go_ret
    exact ⟨rfl, Below.next (Below.refl _ w).drew hb2⟩
set_option maxHeartbeats 1000000 in
set_option maxRecDepth 100000 in
/-- log.step where it is told of no step: it does not stop. -/
theorem log_step (j : Nat) (x0 x1 x2 x3 : Value) (w : World) (h : Blk w j 88 #[x0, x1, x2, x3, .int .i64 (-1), .bool false]) :
    Calls Tryd.prog 43 #[.pointer (some ⟨j, 0, none⟩)] w (Keeps (.bool false) w) := by
  obtain ⟨c0, c1, c2, c3, c4, c5⟩ := h.cells6
  have z4 := h.frozen 4
  have z5 := h.frozen 5
  have G1 := h.set_ 5 (.bool false)
  rw [show (#[x0, x1, x2, x3, .int .i64 (-1), .bool false] : Array Value).setIfInBounds 5 (.bool false) = #[x0, x1, x2, x3, .int .i64 (-1), .bool false] by simp] at G1
  have G2 := G1.set_ 4 (.int .i64 (-1))
  rw [show (#[x0, x1, x2, x3, .int .i64 (-1), .bool false] : Array Value).setIfInBounds 4 (.int .i64 (-1)) = #[x0, x1, x2, x3, .int .i64 (-1), .bool false] by simp] at G2
  have GB := ((But.refl (fun b => b = j) w).set_ (p := ⟨j, 5, none⟩) rfl (.bool false)).set_ (p := ⟨j, 4, none⟩) rfl (.int .i64 (-1))
  have GL : Below w.heap.size w ((w.setCell ⟨j, 5, none⟩ (.bool false)).setCell ⟨j, 4, none⟩ (.int .i64 (-1))) := ⟨GB.os, GB.tape, GB.output, GB.size, fun k hk => by
    by_cases e : k = j
    · subst e
      exact G2.trans h.symm
    · exact GB.block k hk e⟩
  have hmax : max (-1 : Int) (IntKind.i64.wrap (-1 - 1)) = -1 := by decide
  clear G1 G2 GB
  go_enter Tryd.func43, Tryd.ntmps43
  go_wp2
  go_ret
  exact ⟨rfl, GL⟩
end Go.Proofs.YtkgfelbkoffaiaaDoor

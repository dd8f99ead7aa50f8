/-
  EQUALITY OF AN ARRAY OF COUNTS, AND OF A WORLD, WITH ITSELF.
-/
import Derived.Test.YtpkleioabinkkaaGreatDoorMem
import Derived.ChangeKeysEq
import Derived.Laws.StructEq
namespace Go.Proofs.YtpkleioabinkkaaGreatDoor
open Go.RowKit

theorem int_underlying : Tryz.prog.underlying 3 = some (.int .i64) := Tryz.underlying3
theorem eqItems_same (d : Nat) (c : Nat) (xs : Array Value) (W : World) : ∀ (is : List Nat), (∀ i ∈ is, ∃ z, (part 3 xs (i * c)).run Tryz.prog W = .ok (.int .i64 z) W) → (Op.eqItems (d + 1) 3 c xs xs is).run Tryz.prog W = .ok true W := by
  intro is
  induction is with
  | nil => intro _; simp [Op.eqItems]
  | cons i is ih =>
    intro h
    obtain ⟨z, hz⟩ := h i (by simp)
    have := ih fun j hj => h j (List.mem_cons_of_mem _ hj)
    simp only [Op.eqItems, Sem.run_bind, hz, Result.andThen_ok, run_equalIn_int W d 3 .i64 .i64 z z int_underlying]
    simpa using this
theorem info_int : ∃ i, Tryz.prog.info? 3 = some i := by
  obtain ⟨i, hi, _⟩ := Option.map_eq_some_iff.1 int_info
  exact ⟨i, hi⟩
theorem cells_int : Tryz.prog.cellsOf 3 = 1 := by kernel_rfl
theorem equal_counts (m0 m1 m2 m3 m4 m5 m6 m7 : Int) (W : World) : (Op.equalIn 10000 77 (.agg #[.int .i64 m0, .int .i64 m1, .int .i64 m2, .int .i64 m3, .int .i64 m4, .int .i64 m5, .int .i64 m6, .int .i64 m7]) (.agg #[.int .i64 m0, .int .i64 m1, .int .i64 m2, .int .i64 m3, .int .i64 m4, .int .i64 m5, .int .i64 m6, .int .i64 m7])).run Tryz.prog W = .ok true W := by
  obtain ⟨i, hi⟩ := info_int
  rw [run_equalIn_array W 9999 _ _ Tryz.underlying77 hi, eqItems_same 9998 _ _ W (List.range 8)]
  intro j hj
  rw [cells_int]
  have hj8 := List.mem_range.1 hj
  rcases (by omega : j = 0 ∨ j = 1 ∨ j = 2 ∨ j = 3 ∨ j = 4 ∨ j = 5 ∨ j = 6 ∨ j = 7) with rfl | rfl | rfl | rfl | rfl | rfl | rfl | rfl
  · exact ⟨m0, by kernel_rfl⟩
  · exact ⟨m1, by kernel_rfl⟩
  · exact ⟨m2, by kernel_rfl⟩
  · exact ⟨m3, by kernel_rfl⟩
  · exact ⟨m4, by kernel_rfl⟩
  · exact ⟨m5, by kernel_rfl⟩
  · exact ⟨m6, by kernel_rfl⟩
  · exact ⟨m7, by kernel_rfl⟩
theorem eql_counts (m0 m1 m2 m3 m4 m5 m6 m7 : Int) (W : World) : (binOp .eql 77 (.agg #[.int .i64 m0, .int .i64 m1, .int .i64 m2, .int .i64 m3, .int .i64 m4, .int .i64 m5, .int .i64 m6, .int .i64 m7]) (.agg #[.int .i64 m0, .int .i64 m1, .int .i64 m2, .int .i64 m3, .int .i64 m4, .int .i64 m5, .int .i64 m6, .int .i64 m7])).run Tryz.prog W = .ok (.bool true) W := by
  obtain ⟨i, hi⟩ := info_int
  rw [run_eql_struct, run_equalIn_array W 9999 _ _ Tryz.underlying77 hi, eqItems_same 9998 _ _ W (List.range 8)]
  · rfl
  · intro j hj
    rw [cells_int]
    have hj8 := List.mem_range.1 hj
    rcases (by omega : j = 0 ∨ j = 1 ∨ j = 2 ∨ j = 3 ∨ j = 4 ∨ j = 5 ∨ j = 6 ∨ j = 7) with rfl | rfl | rfl | rfl | rfl | rfl | rfl | rfl
    · exact ⟨m0, by kernel_rfl⟩
    · exact ⟨m1, by kernel_rfl⟩
    · exact ⟨m2, by kernel_rfl⟩
    · exact ⟨m3, by kernel_rfl⟩
    · exact ⟨m4, by kernel_rfl⟩
    · exact ⟨m5, by kernel_rfl⟩
    · exact ⟨m6, by kernel_rfl⟩
    · exact ⟨m7, by kernel_rfl⟩
theorem eql_three (d : Nat) (a b c : Int) (W : World) : (Op.equalIn (d + 2) 26 (.agg #[.int .i64 a, .int .i64 b, .int .i64 c]) (.agg #[.int .i64 a, .int .i64 b, .int .i64 c])).run Tryz.prog W = .ok true W := by
  obtain ⟨i, hi⟩ := info_int
  rw [run_equalIn_array W (d + 1) _ _ Tryz.underlying26 hi, eqItems_same d _ _ W (List.range 3)]
  intro j hj
  rw [cells_int]
  have hj8 := List.mem_range.1 hj
  rcases (by omega : j = 0 ∨ j = 1 ∨ j = 2) with rfl | rfl | rfl
  · exact ⟨a, by kernel_rfl⟩
  · exact ⟨b, by kernel_rfl⟩
  · exact ⟨c, by kernel_rfl⟩
theorem eqFields_same (d : Nat) (xs : Array Value) (W : World) : ∀ (fs : List Field), (∀ f ∈ fs, ∃ v, (part f.type xs f.offset).run Tryz.prog W = .ok v W ∧ (Op.equalIn d f.type v v).run Tryz.prog W = .ok true W) → (Op.eqFields d xs xs fs).run Tryz.prog W = .ok true W := by
  intro fs
  induction fs with
  | nil => intro _; simp [Op.eqFields]
  | cons f fs ih =>
    intro h
    obtain ⟨v, h1, h2⟩ := h f (by simp)
    have := ih fun g hg => h g (List.mem_cons_of_mem _ hg)
    by_cases hn : f.name ≠ "_"
    · simp only [Op.eqFields, if_pos hn, Sem.run_bind, h1, Result.andThen_ok, h2]
      simpa using this
    · simp only [Op.eqFields, if_neg hn]
      exact this
theorem world_fields : (Tryz.prog.fieldsOf 28).toList.map (fun f => (f.type, f.offset)) = [(3, 0), (26, 1)] := by kernel_rfl
theorem world_struct : Tryz.prog.underlying 28 = some (.struct (Tryz.prog.fieldsOf 28)) := by kernel_rfl
theorem equal_world (th a b c : Int) (W : World) : (Op.equalIn 10000 28 (.agg #[.int .i64 th, .int .i64 a, .int .i64 b, .int .i64 c]) (.agg #[.int .i64 th, .int .i64 a, .int .i64 b, .int .i64 c])).run Tryz.prog W = .ok true W := by
  rw [run_equalIn_struct W 9999 28 _ _ world_struct (by kernel_rfl), eqFields_same 9999 _ W]
  intro f hf
  have hm : (f.type, f.offset) ∈ [((3 : TypeId), 0), (26, 1)] := by rw [← world_fields]; exact List.mem_map.2 ⟨f, hf, rfl⟩
  simp only [List.mem_cons, Prod.mk.injEq, List.not_mem_nil, or_false] at hm
  rcases hm with ⟨h1, h2⟩ | ⟨h1, h2⟩
  · rw [h1, h2]
    exact ⟨.int .i64 th, by kernel_rfl, by rw [run_equalIn_int W 9998 3 .i64 .i64 th th int_underlying]; simp⟩
  · rw [h1, h2]
    exact ⟨.agg #[.int .i64 a, .int .i64 b, .int .i64 c], by kernel_rfl, eql_three 9997 a b c W⟩
theorem eql_world (th a b c : Int) (W : World) : (binOp .eql 28 (.agg #[.int .i64 th, .int .i64 a, .int .i64 b, .int .i64 c]) (.agg #[.int .i64 th, .int .i64 a, .int .i64 b, .int .i64 c])).run Tryz.prog W = .ok (.bool true) W := by
  rw [run_eql_struct, run_equalIn_struct W 9999 28 _ _ world_struct (by kernel_rfl), eqFields_same 9999 _ W]
  · rfl
  · intro f hf
    have hm : (f.type, f.offset) ∈ [((3 : TypeId), 0), (26, 1)] := by rw [← world_fields]; exact List.mem_map.2 ⟨f, hf, rfl⟩
    simp only [List.mem_cons, Prod.mk.injEq, List.not_mem_nil, or_false] at hm
    rcases hm with ⟨h1, h2⟩ | ⟨h1, h2⟩
    · rw [h1, h2]
      exact ⟨.int .i64 th, by kernel_rfl, by rw [run_equalIn_int W 9998 3 .i64 .i64 th th int_underlying]; simp⟩
    · rw [h1, h2]
      exact ⟨.agg #[.int .i64 a, .int .i64 b, .int .i64 c], by kernel_rfl, eql_three 9997 a b c W⟩
end Go.Proofs.YtpkleioabinkkaaGreatDoor

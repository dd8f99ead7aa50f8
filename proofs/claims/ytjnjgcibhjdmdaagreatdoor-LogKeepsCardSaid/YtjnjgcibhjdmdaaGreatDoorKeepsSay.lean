/-
  THE LOG'S CALLS at LogKeeps' beginning, and what its lists are.
-/
import Derived.Test.YtjnjgcibhjdmdaaGreatDoorVennKeeps
import Derived.Test.YtjnjgcibhjdmdaaGreatDoorSameForms
import Derived.Maps.AppendAt
import Derived.Laws.AppendOwnNone
namespace Go.Proofs.YtjnjgcibhjdmdaaGreatDoor
open Go.RowKit

theorem err_n (E k : Int) (hE : E ≠ 0) (w : World) (hg : EtOk w) : Calls Tryz.prog 15 #[.iface 59 (.int .i64 E), .int .i64 k] w (Keeps (.bool (E == k)) w) := by
  have h := vennsame_Error E k w hg
  rw [errV_ne hE] at h
  exact h
theorem err_nil (k : Int) (w : World) (hg : EtOk w) : Calls Tryz.prog 15 #[.nilIface, .int .i64 k] w (Keeps (.bool ((0 : Int) == k)) w) := by
  have h := vennsame_Error 0 k w hg
  rw [errV_zero rfl] at h
  exact h
def kA : Venn.Atom := ⟨3, [0], [], 1⟩
/-- So many times the same was said. -/
def kR (m : Nat) : List Rec := List.replicate m (kA, true)
def kB (m : Nat) : ByteArray := ⟨(recsB (kR m)).toArray⟩
theorem kA_ok : Venn.atomChk kA = 0 := by decide +kernel
theorem kR_ok (m : Nat) : ∀ r ∈ kR m, Venn.atomChk r.1 = 0 := fun r hr => by rw [(List.mem_replicate.1 hr).2]; exact kA_ok
theorem kR_snoc (m : Nat) : kR (m + 1) = kR m ++ [(kA, true)] := by unfold kR; rw [List.replicate_succ']
theorem kR_len (m : Nat) : (kR m).length = m := by simp [kR]
theorem kA_text : textA kA = [108, 101, 97, 115, 116, 32, 65, 32, 49] := by decide +kernel
theorem kA_len : (recB (kA, true)).length = 11 := by rw [recB_len, kA_text]; rfl
theorem kB_len : ∀ m : Nat, (recsB (kR m)).length = 11 * m
  | 0 => rfl
  | m + 1 => by rw [kR_snoc, recsB_app, recsB_one, List.length_append, kB_len m, kA_len]; omega
theorem kB_size (m : Nat) : (kB m).size = 11 * m := by unfold kB; rw [kp_bsz, kB_len]
theorem kB_snoc (m : Nat) : kB m ++ recBA kA true = kB (m + 1) := by
  unfold kB recBA
  rw [kp_cat, kR_snoc, recsB_app, recsB_one]
set_option maxRecDepth 1000000 in
theorem kSay : sayE kA true 2 (saidF (kR 0)) = 0 ∧ sayE kA true 2 (saidF (kR 1)) = 0 ∧ sayE kA false 2 (saidF (kR 2)) = 7 := by decide +kernel
theorem k_small {m : Nat} (h : m ≤ 5) : (kB m).size ≤ 1073741824 ∧ (saidF (kR m)).length ≤ 90 := by
  rw [kB_size, kp_len, kR_len]
  omega
theorem k_Yes (j m safe : Nat) (sv : Value) (w : World) (h : LogG w j 2 (saidF (kR m)) (kB m) safe (-1) false) (hs : IsInts w sv [0]) (hm : m ≤ 1) (hk : KindsOk w) (htab : TabOk w) :
    Calls Tryz.prog 7 #[.pointer (some ⟨j, 0, none⟩), .agg #[.int .i64 3, sv, .slice none 0 0, .int .i64 1], .bool true] w
      (fun e w' => e = .returned .nilIface ∧ But (fun b => b = j) w w' ∧ LogG w' j 2 (saidF (kR (m + 1))) (kB (m + 1)) safe (-1) false) := by
  refine (logG_SayT j 2 _ _ safe (-1) 3 1 _ _ [0] [] w h hs (IsIntsNil w) hk htab (kp_chk (kR_ok m)) (by decide) (k_small (by omega)).1 (by decide) (by decide) (k_small (by omega)).2).mono ?_
  rintro e w' ⟨E, rfl, hb, hc⟩
  have hz : sayE kA true 2 (saidF (kR m)) = 0 := by
    rcases Nat.lt_or_ge m 1 with h | h
    · obtain rfl : m = 0 := by omega
      exact kSay.1
    · obtain rfl : m = 1 := by omega
      exact kSay.2.1
  rcases hc with ⟨h1, h2, h3⟩ | ⟨h1, h2, _⟩ | ⟨h1, h2, h3, h4⟩
  · rw [show (⟨3, [0], [], 1⟩ : Venn.Atom) = kA from rfl, hz] at h1
    exact absurd h1 h2
  · exact absurd h2 (by decide)
  · subst h3
    refine ⟨by rw [errV_zero rfl], hb, ?_⟩
    rw [show (⟨3, [0], [], 1⟩ : Venn.Atom) = kA from rfl, kB_snoc, show max (-1) ((-1 : Int) - 1) = -1 by decide] at h4
    rw [kR_snoc, kp_snoc]
    exact h4
theorem k_No (j safe : Nat) (sv : Value) (w : World) (h : LogG w j 2 (saidF (kR 2)) (kB 2) safe (-1) false) (hs : IsInts w sv [0]) (hk : KindsOk w) (htab : TabOk w) :
    Calls Tryz.prog 7 #[.pointer (some ⟨j, 0, none⟩), .agg #[.int .i64 3, sv, .slice none 0 0, .int .i64 1], .bool false] w
      (fun e w' => e = .returned (.iface 59 (.int .i64 7)) ∧ But (fun b => b = j) w w' ∧ LogG w' j 2 (saidF (kR 2)) (kB 2) safe (-1) false) := by
  refine (logG_SayF j 2 _ _ safe (-1) 3 1 _ _ [0] [] w h hs (IsIntsNil w) hk htab (kp_chk (kR_ok 2)) (by decide) (k_small (by decide)).1 (by decide) (by decide) (k_small (by decide)).2).mono ?_
  rintro e w' ⟨E, rfl, hb, hc⟩
  have hz := kSay.2.2
  rcases hc with ⟨h1, h2, h3⟩ | ⟨h1, _⟩ | ⟨h1, _⟩
  · rw [show (⟨3, [0], [], 1⟩ : Venn.Atom) = kA from rfl, hz] at h1
    subst h1
    exact ⟨by rw [errV_ne (by decide)], hb, h3⟩
  · rw [show (⟨3, [0], [], 1⟩ : Venn.Atom) = kA from rfl, hz] at h1
    exact absurd h1 (by decide)
  · rw [show (⟨3, [0], [], 1⟩ : Venn.Atom) = kA from rfl, hz] at h1
    exact absurd h1 (by decide)
theorem k_Sync (j m : Nat) (w : World) (h : LogG w j 2 (saidF (kR m)) (kB m) 0 (-1) false) :
    Calls Tryz.prog 8 #[.pointer (some ⟨j, 0, none⟩)] w (fun e w' => e = .returned .nilIface ∧ But (fun b => b = j) w w' ∧ LogG w' j 2 (saidF (kR m)) (kB m) (11 * m) (-1) false) := by
  refine (logG_Sync j 2 _ _ 0 (-1) w h (by decide) (by decide)).mono ?_
  rintro e w' ⟨hb, ⟨h0, -⟩ | ⟨-, he, hL⟩⟩
  · exact absurd h0 (by decide)
  · rw [kB_size] at hL
    exact ⟨he, hb, hL⟩
theorem k_whole : wholeN (kR 2) (keptM 22 11 0) = 1 := by decide +kernel
theorem k_Crash (j : Nat) (w : World) (h : LogG w j 2 (saidF (kR 2)) (kB 2) 11 (-1) false) :
    Calls Tryz.prog 9 #[.pointer (some ⟨j, 0, none⟩), .int .i64 0] w (fun e w' => e = .returned (.tuple #[]) ∧ But (fun b => b = j) w w' ∧ LogG w' j 2 (saidF (kR 1)) (kB 1) 11 (-1) false) := by
  refine (logG_Crash j 2 (kR 2) [] (kB 2) 11 (-1) false 0 w h (by simp [kB]) (by simp) (kR_ok 2) (by rw [kB_size]; decide) (by rw [kB_size]; decide)).mono ?_
  rintro e w' ⟨he, hb, hg⟩
  rw [kB_size, k_whole, show (kR 2).take 1 = kR 1 from rfl, kB_len] at hg
  exact ⟨he, hb, hg⟩
theorem k_All (j : Nat) (w : World) (h : LogG w j 2 (saidF (kR 1)) (kB 1) 11 (-1) false) :
    Calls Tryz.prog 10 #[.pointer (some ⟨j, 0, none⟩)] w (fun e w' => ∃ ad c a2 c2, e = .returned (.slice (some ad) 1 c) ∧ Below w.heap.size w w' ∧ w'.cell? ad = some (.slice (some a2) 1 c2) ∧ w'.cell? ⟨a2.block, a2.off + 3, none⟩ = some (.int .i64 1)) := by
  refine (logG_All j 2 _ _ 11 (-1) false w h (kp_chk (kR_ok 1)) (k_small (by decide)).2).mono ?_
  rintro e w' ⟨A, n, c, rfl, hb, A', c', hv, hr, -⟩
  rw [kp_len, kR_len] at hv
  cases hv
  obtain ⟨ad, sa, sc, rfl, h0, h1, ha, hc⟩ := hr 0 (Venn.aloneF kA true) rfl
  obtain ⟨A2, c2, rfl, hr2, -⟩ := ha
  obtain ⟨a2, sv, tv, rfl, -, -, -, g3, -, -⟩ := hr2 0 kA rfl
  rw [Nat.zero_mul, add0] at g3 h0
  exact ⟨ad, c, a2, c2, rfl, hb, h0, g3⟩
/-- What was said, as the law has it: it stands whatever becomes of the log and of block g. -/
def KpD (g : Nat) (w : World) (j : Nat) (d : Value) (rec : List Rec) : Prop :=
  ∃ A c p, d = .slice A rec.length c ∧ p.length = rec.length ∧ p.length ≤ c ∧ c ≤ maxLen ∧ (A = none → c = 0) ∧ p.map (fun x : FV => x.1) = saidF rec ∧ LClC (fun b => b = g) w j A p
theorem KpD.nil (g : Nat) (w : World) (j : Nat) : KpD g w j (.slice none 0 0) [] := ⟨none, 0, [], rfl, rfl, Nat.le_refl _, by simp [maxLen], fun _ => rfl, rfl, fun _ _ => ⟨Rd.nil _ _, fun x hx => by cases hx⟩⟩
theorem KpD.step {g : Nat} {w w' : World} {j : Nat} {d : Value} {rec : List Rec} (h : KpD g w j d rec) (hb : But (fun b => b = j) w w') : KpD g w' j d rec := by
  obtain ⟨A, c, p, h1, h2, h3, h4, h5, h6, h7⟩ := h
  exact ⟨A, c, p, h1, h2, h3, h4, h5, h6, h7.step hb⟩
theorem KpD.keep {g : Nat} {w w' : World} {j : Nat} {d : Value} {rec : List Rec} (h : KpD g w j d rec) (hb : Below w.heap.size w w') : KpD g w' j d rec := h.step (But.of_below hb)
theorem KpD.but {g g' : Nat} {w w' : World} {j : Nat} {d : Value} {rec : List Rec} (h : KpD g w j d rec) (hc : ∀ W, But (fun b => b = j ∨ b = g') w' W → But (fun b => b = j ∨ b = g) w W) : KpD g' w' j d rec := by
  obtain ⟨A, c, p, h1, h2, h3, h4, h5, h6, h7⟩ := h
  exact ⟨A, c, p, h1, h2, h3, h4, h5, h6, fun W hW => h7 W (hc W hW)⟩
theorem KpD.forms {g : Nat} {w : World} {j : Nat} {d : Value} {rec : List Rec} (h : KpD g w j d rec) : IsForms w d (saidF rec) := by
  obtain ⟨A, c, p, rfl, h2, h3, h4, h5, h6, h7⟩ := h
  rw [← h6, ← h2]
  exact h7.forms h3 h4
theorem KpD.slice {g : Nat} {w : World} {j : Nat} {d : Value} {rec : List Rec} (h : KpD g w j d rec) : ∃ A c, d = .slice A rec.length c ∧ rec.length ≤ c ∧ (A = none → c = 0) := by
  obtain ⟨A, c, p, rfl, h2, h3, h4, h5, h6, h7⟩ := h
  exact ⟨A, c, rfl, by omega, h5⟩
/-- .. the first k of it. -/
theorem KpD.take {g : Nat} {w : World} {j : Nat} {A : Option Addr} {c : Nat} {rec : List Rec} (h : KpD g w j (.slice A rec.length c) rec) {k : Nat} (hk : k ≤ rec.length) : KpD g w j (.slice A k c) (rec.take k) := by
  obtain ⟨A', c', p, e, h2, h3, h4, h5, h6, h7⟩ := h
  injection e with e1 _ e3
  subst e1 e3
  have hl : (rec.take k).length = k := by rw [List.length_take]; omega
  refine ⟨A, c, p.take k, by rw [hl], by rw [hl, List.length_take]; omega, by rw [List.length_take]; omega, h4, h5, by rw [List.map_take, h6]; unfold saidF; rw [List.map_take], fun W hW => ?_⟩
  obtain ⟨r1, r2⟩ := h7 W hW
  refine ⟨fun i x hx => r1 i x ?_, fun x hx => r2 x (List.mem_of_mem_take hx)⟩
  have e : fCells p = fCells (p.take k) ++ fCells (p.drop k) := by rw [← fCells_app, List.take_append_drop]
  rw [e, List.getElem?_append_left (List.getElem?_eq_some_iff.1 hx).1]
  exact hx
/-- The marks, a row of the call's own in block g. -/
def KpM (B : Nat) (w : World) (g cm : Nat) (rec : List Rec) : Prop := w.ownsRow B 3 1 (.slice (some ⟨g, 0, none⟩) (rec.length + 1) cm) (rec.length + 1) ((marksL rec).map (Value.int .i64))
theorem KpM.step {B : Nat} {w w' : World} {g cm j : Nat} {rec : List Rec} (h : KpM B w g cm rec) (hb : But (fun b => b = j) w w') (hn : g ≠ j) : KpM B w' g cm rec :=
  own_but h hb (fun b e => by injection e with e; subst e; exact hn)
theorem KpM.keep {B : Nat} {w w' : World} {g cm : Nat} {rec : List Rec} (h : KpM B w g cm rec) (hb : Below w.heap.size w w') : KpM B w' g cm rec := own_kept h hb
theorem KpM.lt {B : Nat} {w : World} {g cm : Nat} {rec : List Rec} (h : KpM B w g cm rec) : B ≤ g ∧ g < w.heap.size := World.ownsRow.lt h g rfl
theorem KpM.cap {B : Nat} {w : World} {g cm : Nat} {rec : List Rec} (h : KpM B w g cm rec) : rec.length + 1 ≤ cm := (own_cap h).1
theorem KpM.cell {B : Nat} {w : World} {g cm : Nat} {rec : List Rec} (h : KpM B w g cm rec) {i : Nat} (hi : i ≤ rec.length) : w.cell? ⟨g, i, none⟩ = some (.int .i64 ((recsB (rec.take i)).length : Int)) := by
  have := World.ownsRow.cellAt h i (by omega)
  rw [List.getElem?_map, marks_at hi] at this
  exact this
theorem KpM.take {B : Nat} {w : World} {g cm : Nat} {rec : List Rec} (h : KpM B w g cm rec) {k : Nat} (hk : k ≤ rec.length) : KpM B w g cm (rec.take k) := by
  have hl : (rec.take k).length = k := by rw [List.length_take]; omega
  refine ⟨by rw [List.length_map, marks_len]; omega, ?_⟩
  rcases h.2 with ⟨h1, _⟩ | ⟨g', cap', cur, h1, h2, h3, h4, h5, h6, h7⟩
  · cases h1
  · injection h1 with e1 e2 e3
    injection e1 with e1
    injection e1 with e1 _ _
    subst e1 e3
    refine .inr ⟨g, cm, cur, rfl, h2, h3, by rw [hl]; omega, h5, h6, ?_⟩
    rw [hl, ← marks_take hk, List.map_take, ← h7, List.take_take]
    congr 1
    omega
theorem KpM.start (w : World) (B : Nat) (hB : B ≤ w.heap.size) : KpM B (w.alloc (.cells #[.int .i64 0] 3)) w.heap.size 1 [] := World.ownsRow_lit w #[.int .i64 0] 1 hB (by simp [maxLen]) rfl
/-- What stood beside the marks stands when these have grown. -/
theorem grown_but {w w' : World} {g g' j : Nat} (hg : w.grownBy w' (some g)) (hat : g' = g ∨ g' = w.heap.size) {W : World} (hW : But (fun b => b = j ∨ b = g') w' W) : But (fun b => b = j ∨ b = g) w W :=
  ⟨hW.os.trans hg.os, hW.tape.trans hg.tape, hW.output.trans hg.output, Nat.le_trans hg.size hW.size, fun k hk hn => (hW.block k (Nat.lt_of_lt_of_le hk hg.size) (fun e => by
    rcases e with e | e
    · exact hn (.inl e)
    · rcases hat with h | h
      · exact hn (.inr (e.trans h))
      · omega)).trans (hg.block k hk (fun e => by injection e with e; exact hn (.inr e)))⟩
theorem grown_blk {w w' : World} {g j : Nat} (hg : w.grownBy w' (some g)) (hn : g ≠ j) : ∀ t cs, Blk w j t cs → Blk w' j t cs := fun _ _ h => h.grown hg (by intro e; injection e with e; exact hn e.symm)

/-- append(row, y), and where the row lies then. -/
theorem wpList_app1m {ops : Array Oper} {rest : List Oper} {o : Oper} {a : Act} {Q : Exit → Act → World → Prop} (w : World) (hgd : o.guard = none) (s x : Operand)
    (ho : o.op = .call { callee := .builtin .append, args := #[s, x], argTypes := #[30, 30] })
    (base : Nat) (v : Value) (n : Nat) (xs : List Value) (hs : a.eval s = v) (hown : w.ownsRow base 3 1 v n xs)
    (g c : Nat) (y : Int) (hx : a.eval x = .slice (some ⟨g, 0, none⟩) 1 c) (hy : w.cell? ⟨g, 0, none⟩ = some (.int .i64 y)) (hn : n < 1099511627776) (hbase : base ≤ w.heap.size)
    (h : ∀ v' w', w'.ownsRow base 3 1 v' (n + 1) (xs ++ [.int .i64 y]) → w.grownBy w' v.ownBlock → (v'.ownBlock = v.ownBlock ∨ v'.ownBlock = some w.heap.size) → wpList Tryz.prog ops Q rest (a.put o.dst v') w') : wpList Tryz.prog ops Q (o :: rest) a w := by
  obtain ⟨i0, hi, hz0, hz1, hz2⟩ := info_parts int_info
  refine wpList_append_own_at w hgd s x _ ho base _ i0 _ 1 8 Tryz.underlying30 hi hz0 hz1 hz2 rfl (by decide) v n xs hs hown ⟨g, 0, none⟩ 1 c [.int .i64 y] hx rfl ?_ ?_ (by unfold maxLen; omega) (by omega) hbase (fun v' w' h1 h2 _ h4 => h v' w' h1 h2 h4)
  · intro j u hj
    match j, hj with
    | 0, hj => simp at hj; subst hj; simpa [Addr.add] using hy
  · intro u hu; simp at hu; subst hu; rfl
set_option maxRecDepth 100000 in
/-- append(forms, one), and where the row lies then. -/
theorem wpList_appFN {ops : Array Oper} {rest : List Oper} {o : Oper} {a : Act} {Q : Exit → Act → World → Prop} (w : World) (hgd : o.guard = none) (s x : Operand)
    (ho : o.op = .call { callee := .builtin .append, args := #[s, x], argTypes := #[35, 35] })
    (base : Nat) (v : Value) (p : List FV) (hs : a.eval s = v) (hown : w.ownsRow base 38 2 v p.length (fCells p))
    (g c : Nat) (y : FV) (hx : a.eval x = .slice (some ⟨g, 0, none⟩) 1 c) (hB : Blk w g 38 #[y.2.1, y.2.2]) (hy : FOk w [y]) (hn : p.length < 1000) (hbase : base ≤ w.heap.size)
    (h : ∀ v' w', w'.ownsRow base 38 2 v' (p.length + 1) (fCells p ++ fCells [y]) → w.grownBy w' v.ownBlock → wpList Tryz.prog ops Q rest (a.put o.dst v') w') : wpList Tryz.prog ops Q (o :: rest) a w := by
  obtain ⟨i0, hi, hz0, hz1, hz2⟩ := info_parts form_infoK
  refine wpList_append_own_at w hgd s x _ ho base _ i0 _ 2 48 Tryz.underlying35 hi hz0 hz1 hz2 rfl (by decide) v p.length (fCells p) hs hown ⟨g, 0, none⟩ 1 c (fCells [y]) hx (fCells_len [y]) ?_ (fCells_one hy) (by unfold maxLen; omega) (by omega) hbase (fun v' w' h1 h2 _ _ => h v' w' h1 h2)
  intro j u hj
  exact World.news_of_block (cs := #[y.2.1, y.2.2]) hB j u hj
/-- append(nil, forms...) makes a row of the call's own. -/
theorem wpList_appFs {ops : Array Oper} {rest : List Oper} {o : Oper} {a : Act} {Q : Exit → Act → World → Prop} (w : World) (hgd : o.guard = none) (s x : Operand)
    (ho : o.op = .call { callee := .builtin .append, args := #[s, x], argTypes := #[35, 35] })
    (hs : a.eval s = .slice none 0 0) (A : Option Addr) (c : Nat) (p : List FV) (hx : a.eval x = .slice A p.length c) (hc : A = none → c = 0) (hr : Rd w A (fCells p)) (hp : FOk w p) (hn : p.length ≤ 1000)
    (h : ∀ v' w', w'.ownsRow w.heap.size 38 2 v' p.length (fCells p) → Below w.heap.size w w' → wpList Tryz.prog ops Q rest (a.put o.dst v') w') : wpList Tryz.prog ops Q (o :: rest) a w := by
  cases A with
  | some ad =>
    refine wpList_appF w hgd s x ho w.heap.size _ 0 [] hs (World.ownsRow_nil _ _ _ _) ad c p hx hr hp (by omega) (Nat.le_refl _) fun v' w' h1 h2 => ?_
    exact h v' w' (by simpa using h1) ((Below.refl _ w).grown h2 (Nat.le_refl _) (fun b e => by cases e))
  | none =>
    obtain rfl := hc rfl
    have hnil : p = [] := by
      cases p with
      | nil => rfl
      | cons x r =>
        obtain ⟨_, e, _⟩ := hr 0 x.2.1 (by simp [fCells])
        cases e
    subst hnil
    obtain ⟨i0, hi, -, -, -⟩ := info_parts form_infoK
    exact wpList_append_own_none hgd s x _ ho w.heap.size _ i0 2 Tryz.underlying35 hi _ 0 [] hs (World.ownsRow_nil _ _ _ _) hx (h _ w (World.ownsRow_nil _ _ _ _) (Below.refl _ w))
theorem KpSt.lt {C : Nat → Prop} {w : World} {j : Nat} {u : Int} {rec : List Rec} {b s : Nat} (h : KpSt C w j u rec b s) : j < w.heap.size := by
  obtain ⟨-, -, -, -, part, left, st, -, -, -, -, -, -, A, c, p, hB, -⟩ := h
  exact hB.lt
theorem KpSt.anyC {C C' : Nat → Prop} {w : World} {j : Nat} {u : Int} {b s : Nat} (h : KpSt C w j u [] b s) : KpSt C' w j u [] b s := by
  obtain ⟨h1, h2, h3, h4, part, left, st, p1, p2, p3, p4, p5, p6, A, c, p, q1, q2, q3, q4, q5⟩ := h
  have hp : p = [] := by
    have := congrArg List.length q2
    simp [saidF] at this
    exact this
  subst hp
  exact ⟨h1, h2, h3, h4, part, left, st, p1, p2, p3, p4, p5, p6, A, c, [], q1, q2, q3, q4, fun _ _ => ⟨Rd.nil _ _, fun x hx => by cases hx⟩⟩
theorem KpSt.bound {C : Nat → Prop} {w : World} {j : Nat} {u : Int} {rec : List Rec} {b s : Nat} (h : KpSt C w j u rec b s) : s ≤ b ∧ b ≤ 700 ∧ rec.length ≤ 6 := by
  obtain ⟨h1, h2, h3, h4, part, left, st, p1, p2, p3, p4, p5, p6, -⟩ := h
  have := kp_size h2
  rw [List.length_append] at p6
  omega
/-- HOW ALL STANDS at a loop's head. -/
def KpLoop (j : Nat) (u : Int) (d m : Value) (w wr : World) : Prop :=
  ∃ (rec : List Rec) (b s g cm : Nat), m = .slice (some ⟨g, 0, none⟩) (rec.length + 1) cm ∧ Below w.heap.size w wr ∧ g ≠ j ∧ KpM w.heap.size wr g cm rec ∧ KpD g wr j d rec ∧ KpSt (fun b => b = g) wr j u rec b s
/-- What is wrong, as the law reckons it. -/
theorem sayE_one {a : Venn.Atom} {h : Bool} {u : Int} {rec : List Rec} {E1 : Int} (h1 : E1 = if Venn.atomChk a = 0 then (if 6 ≤ rec.length then 4 else 0) else Venn.atomChk a) :
    sayE a h u (saidF rec) = if E1 = 0 then (if Venn.openV (saidF rec ++ [Venn.aloneF a h]) u = true then 0 else 7) else E1 := by
  subst h1
  unfold sayE
  rw [kp_len]
  by_cases hc : Venn.atomChk a = 0
  · by_cases h6 : 6 ≤ rec.length
    · simp [hc, h6]
    · simp [hc, h6]
  · simp [hc]
end Go.Proofs.YtjnjgcibhjdmdaaGreatDoor

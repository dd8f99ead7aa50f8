/-
  THE PLAIN SIDE of formulas as text: what is read is what was written.
-/
import Derived.Test.YtcloppcekbdbaaaGreatDoorVennRead
namespace Go.Proofs.YtcloppcekbdbaaaGreatDoor
open Go.RowKit

/-- A word's sign. -/
def signO (w : List UInt8) : Option Int :=
  if w = [97, 110, 100] then some 10 else if w = [111, 114] then some 11 else if w = [110, 111] then some 12 else if w = [116, 104, 101, 110] then some 13
  else match w with
    | [b] => if Venn.dig b = true then some ((b.toNat : Int) - 48) else none
    | _ => none
def signsO : List (List UInt8) → Option (List Int)
  | [] => some []
  | w :: r => match signO w with | none => none | some s => (signsO r).map (s :: ·)
/-- A line's code. -/
def codeO (ws : List (List UInt8)) : Option (List Int) := if ws.getD 0 [] = [99, 111, 100, 101] then signsO ws.tail else none
/-- A text's lines. -/
def linesOf (s : ByteArray) : List ByteArray := Lib.splitB ⟨#[10]⟩ 0 (Lib.countB s ⟨#[10]⟩) s
/-- Line by line: the first fault. -/
def linesErr : List ByteArray → Int
  | [] => 0
  | x :: r => if parseAChk (readA (wordsOf x)) = 0 then linesErr r else parseAChk (readA (wordsOf x))
def linesV (l : List ByteArray) : List Venn.Atom := l.map fun x => parseAV (readA (wordsOf x))
/-- The line of the code, of a text in lines. -/
def lastLine (l : List ByteArray) : ByteArray := l.getD (l.length - 2) ⟨#[]⟩
def formErrL (l : List ByteArray) : Int :=
  if l.length < 2 ∨ wordAt l (l.length - 1) ≠ [] then 2
  else match codeO (Venn.cutL 32 (lastLine l).data.toList) with
    | none => 2
    | some c => if linesErr (l.take (l.length - 2)) = 0 then Venn.formChk ⟨linesV (l.take (l.length - 2)), c⟩ else linesErr (l.take (l.length - 2))
def formVL (l : List ByteArray) : Venn.Form :=
  if formErrL l = 0 then ⟨linesV (l.take (l.length - 2)), (codeO (Venn.cutL 32 (lastLine l).data.toList)).getD []⟩ else ⟨[], []⟩
def formErr (s : ByteArray) : Int := formErrL (linesOf s)
def formV (s : ByteArray) : Venn.Form := formVL (linesOf s)

theorem lines_cut (s : ByteArray) : (linesOf s).map (·.data.toList) = Venn.cutL 10 s.data.toList := Venn.splitB_cut 10 s
theorem lines_length (s : ByteArray) : (linesOf s).length = (Venn.cutL 10 s.data.toList).length := by rw [← lines_cut, List.length_map]
theorem ba_eta (b : ByteArray) : (⟨b.data.toList.toArray⟩ : ByteArray) = b := by cases b; simp
theorem lines_map (s : ByteArray) : linesOf s = (Venn.cutL 10 s.data.toList).map fun l => ⟨l.toArray⟩ := by
  rw [← lines_cut, List.map_map]
  conv => lhs; rw [← List.map_id (linesOf s)]
  exact List.map_congr_left fun b _ => (ba_eta b).symm

theorem sign_word : ∀ s : Fin 14, (s.val < 6 ∨ 10 ≤ s.val) → signO (wordS ((s.val : Nat) : Int)) = some ((s.val : Nat) : Int) := by decide +kernel
theorem digit_word : ∀ i : Fin 10, wordS ((i.val : Nat) : Int) = [UInt8.ofNat (48 + i.val)] := by decide +kernel
theorem signO_back {w : List UInt8} {s : Int} (h : signO w = some s) : wordS s = w := by
  unfold signO at h
  split at h
  · rename_i e; obtain rfl := Option.some.inj h; rw [e]; rfl
  split at h
  · rename_i e; obtain rfl := Option.some.inj h; rw [e]; rfl
  split at h
  · rename_i e; obtain rfl := Option.some.inj h; rw [e]; rfl
  split at h
  · rename_i e; obtain rfl := Option.some.inj h; rw [e]; rfl
  split at h
  · rename_i b
    split at h
    · rename_i hd
      obtain ⟨i, e, e2⟩ := Venn.dig_byte hd
      obtain rfl := Option.some.inj h
      rw [e2, e, show ((48 + i.val : Nat) : Int) - 48 = ((i.val : Nat) : Int) by omega]
      exact digit_word i
    · cases h
  · cases h
theorem signs_back : ∀ {ws : List (List UInt8)} {c : List Int}, signsO ws = some c → c.map wordS = ws
  | [], c, h => by obtain rfl := Option.some.inj h; rfl
  | w :: r, c, h => by
    unfold signsO at h
    cases hs : signO w with
    | none => rw [hs] at h; cases h
    | some s =>
      rw [hs] at h
      obtain ⟨d, hd, rfl⟩ := Option.map_eq_some_iff.1 h
      rw [List.map_cons, signO_back hs, signs_back hd]
theorem signs_of : ∀ {c : List Int}, (∀ s ∈ c, signO (wordS s) = some s) → signsO (c.map wordS) = some c
  | [], _ => rfl
  | s :: r, h => by
    rw [List.map_cons, signsO, h s (by simp)]
    show (signsO (r.map wordS)).map (s :: ·) = _
    rw [signs_of fun x hx => h x (List.mem_cons_of_mem _ hx)]; rfl
/-- The line of the code is its words, a blank between. -/
theorem code_join (c : List Int) : [99, 111, 100, 101] ++ codeB c = Lib.join ([99, 111, 100, 101] :: c.map wordS) [32] := by
  rw [Lib.join_cons, Lib.joinTail, List.map_map, codeB, List.flatMap]
  rfl
theorem lines_err : ∀ {l : List ByteArray}, linesErr l = 0 → ∀ x ∈ l, parseAChk (readA (wordsOf x)) = 0
  | [], _, x, hx => by cases hx
  | y :: r, h, x, hx => by
    unfold linesErr at h
    split at h
    · rename_i h0
      rcases List.mem_cons.1 hx with rfl | hx
      · exact h0
      · exact lines_err h x hx
    · rename_i h0; exact absurd h h0
theorem lines_right : ∀ {l : List ByteArray}, (∀ x ∈ l, parseAChk (readA (wordsOf x)) = 0) → linesErr l = 0
  | [], _ => rfl
  | y :: r, h => by rw [linesErr, if_pos (h y (by simp)), lines_right fun x hx => h x (List.mem_cons_of_mem _ hx)]
theorem lines_text : ∀ {l : List ByteArray}, (∀ x ∈ l, parseAChk (readA (wordsOf x)) = 0) → linesB (linesV l) = l.flatMap fun x => x.data.toList ++ [10]
  | [], _ => rfl
  | y :: r, h => by
    have ih := lines_text fun x hx => h x (List.mem_cons_of_mem _ hx)
    unfold linesB linesV at ih ⊢
    rw [List.map_cons, List.flatMap_cons, List.flatMap_cons, (print_parse (h y (by simp))).2, ih]
theorem join_lines : ∀ (l : List (List UInt8)) (x : List UInt8), Lib.join (l ++ [x, []]) [10] = (l.flatMap fun x => x ++ [10]) ++ x ++ [10]
  | [], x => by rw [List.nil_append, Venn.join_two, Lib.join_one]; simp
  | y :: r, x => by
    have ih := join_lines r x
    rw [List.cons_append]
    cases hr : r ++ [x, []] with
    | nil => simp at hr
    | cons z t =>
      rw [hr] at ih
      rw [Venn.join_two, ih]; simp
theorem split_last {l : List ByteArray} (h : 2 ≤ l.length) (he : wordAt l (l.length - 1) = []) : l.map (·.data.toList) = (l.take (l.length - 2)).map (·.data.toList) ++ [(lastLine l).data.toList, []] := by
  have h1 : l = l.take (l.length - 2) ++ [l.getD (l.length - 2) ⟨#[]⟩, l.getD (l.length - 1) ⟨#[]⟩] := by
    conv => lhs; rw [← List.take_append_drop (l.length - 2) l]
    congr 1
    have hd : (l.drop (l.length - 2)).length = 2 := by simp; omega
    generalize hD : l.drop (l.length - 2) = D at hd
    match D, hd with
    | [a, b], _ =>
      have e1 : l[l.length - 2]? = some a := by
        have := congrArg (·[0]?) hD
        simpa [List.getElem?_drop] using this
      have e2 : l[l.length - 1]? = some b := by
        have := congrArg (·[1]?) hD
        simp only [List.getElem?_drop] at this
        rw [show l.length - 2 + 1 = l.length - 1 by omega] at this
        simpa using this
      rw [List.getD, List.getD, e1, e2]; rfl
  conv => lhs; rw [h1]
  rw [List.map_append]
  congr 1
  show [_, wordAt l (l.length - 1)] = _
  rw [he]; rfl
/-- WHAT IS READ WAS WRITTEN SO. -/
theorem form_print {s : ByteArray} (h : formErr s = 0) : Venn.formChk (formV s) = 0 ∧ printB (formV s) = s.data.toList := by
  have hj := Venn.join_cut 10 s.data.toList
  rw [← lines_cut] at hj
  unfold formErr at h
  unfold formV
  generalize linesOf s = l at hj h ⊢
  have hv : formVL l = ⟨linesV (l.take (l.length - 2)), (codeO (Venn.cutL 32 (lastLine l).data.toList)).getD []⟩ := by unfold formVL; rw [if_pos h]
  rw [hv]
  unfold formErrL at h
  split at h
  · cases h
  rename_i hl
  have hl2 : 2 ≤ l.length := by omega
  have he : wordAt l (l.length - 1) = [] := by
    by_cases e : wordAt l (l.length - 1) = []
    · exact e
    · exact absurd (.inr e) hl
  rw [split_last hl2 he, join_lines] at hj
  cases hc : codeO (Venn.cutL 32 (lastLine l).data.toList) with
  | none => rw [hc] at h; cases h
  | some c =>
    rw [hc] at h
    simp only at h
    split at h
    · rename_i he0
      refine ⟨h, ?_⟩
      rw [← hj]
      show (linesB (linesV (l.take (l.length - 2))) ++ [99, 111, 100, 101] ++ codeB c) ++ [10] = _
      rw [lines_text (lines_err he0), List.append_assoc (List.flatMap _ _), code_join]
      have hcl : [99, 111, 100, 101] :: c.map wordS = Venn.cutL 32 (lastLine l).data.toList := by
        unfold codeO at hc
        split at hc
        · rename_i h0
          rw [signs_back hc]
          generalize hX : Venn.cutL 32 (lastLine l).data.toList = X at h0
          cases X with
          | nil => exact absurd hX (Venn.cutL_ne _ _)
          | cons x r => rw [← h0]; rfl
        · cases hc
      rw [hcl, Venn.join_cut, List.flatMap_map]
    · rename_i he0; exact absurd h he0
theorem form_codes {f : Venn.Form} (h : Venn.formChk f = 0) : ∀ s ∈ f.code, signO (wordS s) = some s ∧ (10 : UInt8) ∉ wordS s ∧ (32 : UInt8) ∉ wordS s := by
  obtain ⟨_, _, _, _, _, h6, _⟩ := Venn.formChk_parts h
  intro s hs
  have := List.all_eq_true.1 h6 s hs
  unfold Venn.codeOk Venn.fSign at this
  simp at this
  have h1 := sign_word ⟨s.toNat, by omega⟩ (by simp only; omega)
  have h2 : ∀ s : Fin 14, (10 : UInt8) ∉ wordS ((s.val : Nat) : Int) ∧ (32 : UInt8) ∉ wordS ((s.val : Nat) : Int) := by decide +kernel
  have h2 := h2 ⟨s.toNat, by omega⟩
  simp only at h1 h2
  rw [show ((s.toNat : Nat) : Int) = s by omega] at h1 h2
  exact ⟨h1, h2⟩
/-- WHAT IS WRITTEN IS READ SO. -/
theorem print_form {f : Venn.Form} (h : Venn.formChk f = 0) : formErr ⟨(printB f).toArray⟩ = 0 ∧ formV ⟨(printB f).toArray⟩ = f := by
  obtain ⟨l, c⟩ := f
  have hcs := form_codes h
  obtain ⟨_, _, _, _, p5, _⟩ := Venn.formChk_parts h
  have ha : ∀ a ∈ l, Venn.atomChk a = 0 := fun a ha => Venn.atomsChk_mem p5 a ha
  have hcode : (10 : UInt8) ∉ [99, 111, 100, 101] ++ codeB c := by
    rw [code_join]
    refine join_none [32] (by decide) _ fun x hx => ?_
    rcases List.mem_cons.1 hx with rfl | hx
    · decide
    · obtain ⟨s, hs, rfl⟩ := List.mem_map.1 hx
      exact (hcs s hs).2.1
  have hwords : Venn.cutL 32 ([99, 111, 100, 101] ++ codeB c) = [99, 111, 100, 101] :: c.map wordS := by
    rw [code_join]
    refine Venn.cut_join (by simp) fun x hx => ?_
    rcases List.mem_cons.1 hx with rfl | hx
    · decide
    · obtain ⟨s, hs, rfl⟩ := List.mem_map.1 hx
      exact (hcs s hs).2.2
  have hL : Venn.cutL 10 (printB ⟨l, c⟩) = l.map textA ++ [[99, 111, 100, 101] ++ codeB c, []] := by
    have e : printB ⟨l, c⟩ = Lib.join (l.map textA ++ [[99, 111, 100, 101] ++ codeB c, []]) [10] := by
      rw [join_lines, List.flatMap_map]
      show (linesB l ++ [99, 111, 100, 101] ++ codeB c) ++ [10] = _
      rw [linesB, List.append_assoc (List.flatMap _ _)]
    rw [e]
    refine Venn.cut_join (by simp) fun x hx => ?_
    rcases List.mem_append.1 hx with hx | hx
    · obtain ⟨a, ha', rfl⟩ := List.mem_map.1 hx
      exact textA_none (ha a ha')
    · simp only [List.mem_cons, List.not_mem_nil, or_false] at hx
      rcases hx with rfl | rfl
      · exact hcode
      · simp
  have hlines : linesOf ⟨(printB ⟨l, c⟩).toArray⟩ = (l.map fun a => (⟨(textA a).toArray⟩ : ByteArray)) ++ [⟨([99, 111, 100, 101] ++ codeB c).toArray⟩, ⟨#[]⟩] := by
    rw [lines_map, ba_str, hL, List.map_append, List.map_map]; rfl
  have hlen : (linesOf ⟨(printB ⟨l, c⟩).toArray⟩).length = l.length + 2 := by rw [hlines]; simp
  have htake : (linesOf ⟨(printB ⟨l, c⟩).toArray⟩).take l.length = l.map fun a => (⟨(textA a).toArray⟩ : ByteArray) := by
    rw [hlines, List.take_left' (by simp)]
  have hlast : lastLine (linesOf ⟨(printB ⟨l, c⟩).toArray⟩) = ⟨([99, 111, 100, 101] ++ codeB c).toArray⟩ := by
    unfold lastLine
    rw [hlen, Nat.add_sub_cancel, hlines, List.getD, List.getElem?_append_right (by simp)]
    simp
  have hend : wordAt (linesOf ⟨(printB ⟨l, c⟩).toArray⟩) (l.length + 1) = [] := by
    unfold wordAt
    rw [hlines, List.getD, List.getElem?_append_right (by simp)]
    simp
  have hco : codeO (Venn.cutL 32 (lastLine (linesOf ⟨(printB ⟨l, c⟩).toArray⟩)).data.toList) = some c := by
    rw [hlast, ba_str, hwords]
    unfold codeO
    rw [if_pos (show ([99, 111, 100, 101] :: c.map wordS).getD 0 [] = [99, 111, 100, 101] from rfl)]
    exact signs_of fun s hs => (hcs s hs).1
  have he : linesErr (l.map fun a => (⟨(textA a).toArray⟩ : ByteArray)) = 0 := lines_right fun x hx => by
    obtain ⟨a, ha', rfl⟩ := List.mem_map.1 hx
    exact (parse_print (ha a ha')).1
  have hv : linesV (l.map fun a => (⟨(textA a).toArray⟩ : ByteArray)) = l := by
    unfold linesV
    rw [List.map_map]
    conv => rhs; rw [← List.map_id l]
    exact List.map_congr_left fun a ha' => (parse_print (ha a ha')).2
  have h0 : formErrL (linesOf ⟨(printB ⟨l, c⟩).toArray⟩) = 0 := by
    unfold formErrL
    rw [hlen, Nat.add_sub_cancel, if_neg (by rw [show l.length + 2 - 1 = l.length + 1 by omega, hend]; simp), hco, htake]
    simp only
    rw [if_pos he, hv]
    exact h
  refine ⟨h0, ?_⟩
  unfold formV formVL
  rw [if_pos h0, hlen, Nat.add_sub_cancel, htake, hv, hco]
  rfl
end Go.Proofs.YtcloppcekbdbaaaGreatDoor

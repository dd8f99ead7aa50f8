/-
  THE WALK of the reference's Core.
-/
import Derived.Test.YtcecbpbpknphjaaDoorRefAsk
import Derived.Test.YtcecbpbpknphjaaDoorFormsA
import Derived.Test.YtcecbpbpknphjaaDoorVennPick
import Derived.Deep.OwnRows
namespace Go.Proofs.YtcecbpbpknphjaaDoor
open Go.RowKit

theorem bool_info2 : (Tryd.prog.info? 4).map (fun i => (i.zero, i.size, i.bytes)) = some (some (.bool false), 1, 1) := by kernel_rfl
def bArr (G : List Bool) : Array Value := (G.map Value.bool).toArray
theorem bArr_at {G : List Bool} {k : Nat} {b : Bool} (h : G[k]? = some b) : (bArr G)[k]? = some (.bool b) := by simp [bArr, h]
theorem bArr_set (G : List Bool) (k : Nat) (b : Bool) : (bArr G).setIfInBounds k (.bool b) = bArr (G.set k b) := by
  simp [bArr, List.map_set]
theorem made_bools (n : Nat) : madeCells #[.bool false] n = bArr (List.replicate n false) := by
  apply Array.ext
  · simp [madeCells, bArr]
  · intro i h1 h2
    simp [madeCells, bArr, Nat.mod_one]
set_option maxHeartbeats 8000000 in
set_option maxRecDepth 100000 in
theorem ref_Core (v : Value) (l : List Venn.Form) (u : Int) (w : World) (hl : IsForms w v l) (hf : ∀ f ∈ l, Venn.formChk f = 0) (h6 : l.length ≤ 6) (hu : Venn.things u = true) :
    Calls Tryd.prog 39 #[v, .int .i64 u] w (fun e w' => ∃ o, e = .returned o ∧ Below w.heap.size w w' ∧ IsInts w' o (Venn.coreGo l u l.length).2) := by
  obtain ⟨A, c, p, rfl, hpl, hrd, hok, hc1, hc2⟩ := forms_open hl
  have hplen : p.length = l.length := by rw [← hpl]; simp
  have HR := Lib.hid hrd
  have HOK := Lib.hid hok
  have HPL := Lib.hid hpl
  have hmk := run_make_row' (P := Tryd.prog) 121 4 (.bool false) 1 Tryd.underlying121 bool_info2 rfl .i64 .i64 p.length (by omega) (by omega)
  rw [made_bools p.length] at hmk
  have HMK := Lib.hid hmk
  have hcm := hc2
  unfold maxLen at hcm
  have HFK := Lib.hid (show ∀ (G : List Bool), ∀ f ∈ Venn.pick G l, Venn.formChk f = 0 from fun G f h => hf f (Venn.pick_mem G l f h))
  have HST := Lib.hid (Venn.CoreRel.start l u)
  rw [hplen.symm] at HST
  have hp6 : p.length ≤ 6 := by omega
  rw [← hplen]
  have HPN := Lib.hid hplen
  clear hrd hok hpl hl hf hc2 hmk hplen h6
  go_enter Tryd.func39, Tryd.ntmps39
  have hmk := HMK.out
  go_wp2
  have BG := Blk.new w 4 (bArr (List.replicate p.length false))
  have hb0 : Below w.heap.size w (w.alloc (.cells (bArr (List.replicate p.length false)) 4)) := by (repeat' (first | (with_reducible exact Below.refl _ _) | (with_reducible assumption) | (with_reducible refine Below.next ?_ (by with_reducible assumption)) | (with_reducible refine Below.drew ?_) | (with_reducible refine Below.laid ?_ _) | (with_reducible refine Below.setCell ?_ ?_ _) | (with_reducible refine size_of ?_) | (with_reducible refine Nat.le_succ_of_le ?_) | go_size))
  revert BG hb0
  clear hmk
  generalize hw0 : World.alloc _ _ = w0
  intro BG hb0
  have hs0 : w0.heap.size = w.heap.size + 1 := by rw [← hw0]; simp
  clear hw0
  go_loopw [6, 7] (fun o i wr => ∃ (K : Nat) (G : List Bool) (out : List Int), K ≤ p.length ∧ i = .int .i64 K ∧ out = (Venn.coreGo l u K).2 ∧ Venn.CoreRel l u K G ∧ Below w.heap.size w wr ∧ w0.heap.size ≤ wr.heap.size ∧ Blk wr w.heap.size 4 (bArr G) ∧ wr.ownsRow w0.heap.size 3 1 o out.length (out.map (Value.int .i64))) (fun _ i _ => p.length - (intOf i).toNat)
  case atStart => exact ⟨0, _, [], Nat.zero_le _, rfl, rfl, HST.out, hb0, Nat.le_refl _, BG, World.ownsRow_nil _ _ _ _⟩
  case round =>
    clear BG hb0
    obtain ⟨K, G, out, hK, rfl, hout, hrelC, hb, hsz, hBG, hown⟩ := hrel
    obtain ⟨wo, rfl⟩ : ∃ wo : World, wo = wr := ⟨_, rfl⟩
    obtain ⟨V1, c1, rfl⟩ := ownsRow_slice hown
    have HC := Lib.hid hrelC
    have HOUT := Lib.hid hout
    have HOW := Lib.hid hown
    have hlb := hBG.lt
    by_cases hlt : K < p.length
    · have hKl : K < l.length := by have := HPN.out; omega
      have hK1 : (K : Int) < (p.length : Int) := by omega
      have hK0 : (0 : Int) ≤ (K : Int) := by omega
      have hcell : wo.cell? ⟨w.heap.size, K, none⟩ = some (.bool false) := (hBG.cell K).trans (bArr_at (hrelC.rest K (Nat.le_refl _) hKl))
      have hfz := hBG.frozen K
      have hG := hBG.set_ K (.bool true)
      rw [bArr_set] at hG
      have hlenG := hrelC.len
      have HG1 := Lib.hid (show (G.set K true).length = l.length by simpa using hlenG)
      have HPE := Lib.hid (show Venn.pick (G.set K true) l = (Venn.pick (G.set K true) p).map (fun x : FV => x.1) by rw [Venn.pick_map, HPL.out])
      have HSH := Lib.hid (fun h => hrelC.shut hKl h)
      have HOP := Lib.hid (fun h => hrelC.open_ hKl h)
      have HF1 := Lib.hid (HFK.out (G.set K true))
      have hw1 : Below w.heap.size w (wo.setCell ⟨w.heap.size, K, none⟩ (.bool true)) := hb.setCell (Nat.le_refl _) _
      have hown1 : (wo.setCell ⟨w.heap.size, K, none⟩ (.bool true)).ownsRow w0.heap.size 3 1 (.slice V1 out.length c1) out.length (out.map (Value.int .i64)) := own_but hown ((But.refl (fun b => b = w.heap.size) wo).set_ (p := ⟨w.heap.size, K, none⟩) rfl _) (fun b e he => by have := (hown.lt b e).1; omega)
      have hsz1 : w0.heap.size ≤ (wo.setCell ⟨w.heap.size, K, none⟩ (.bool true)).heap.size := by simpa using hsz
      generalize hG' : G.set K true = G' at hG HG1 HPE HSH HOP HF1
      clear hown hrelC hlenG HFK hout hKl
      go_upto_region 7 with (fail)
      clear hcell hfz hBG hlb HC hb hsz HOW
      revert hG hw1 hown1 hsz1
      generalize World.setCell _ _ _ = w1
      intro hw1 hown1 hsz1 hG
      have HOW := Lib.hid hown1
      have HBG := Lib.hid hG
      have hlg := hG.lt
      clear hown1
      go_wp2
      go_loopw [8, 9] (fun r i wr => ∃ (m cnt : Nat), m ≤ p.length ∧ i = .int .i64 m ∧ cnt = (Venn.pick G' (p.take m)).length ∧ Below w1.heap.size w1 wr ∧ wr.ownsRow w1.heap.size 25 2 r cnt (fCells (Venn.pick G' (p.take m)))) (fun _ i _ => p.length - (intOf i).toNat)
      case atStart => exact ⟨0, 0, Nat.zero_le _, rfl, by rw [List.take_zero, Venn.pick_nil]; rfl, Below.refl _ _, by rw [List.take_zero, Venn.pick_nil]; exact World.ownsRow_nil _ _ _ _⟩
      case round =>
        obtain ⟨m, cnt, hm, rfl, hcnt, hbz, hrow⟩ := hrel
        obtain ⟨wi, rfl⟩ : ∃ wi : World, wi = wr := ⟨_, rfl⟩
        obtain ⟨V2, c2, rfl⟩ := ownsRow_slice hrow
        have HRW := Lib.hid hrow
        have HCN := Lib.hid hcnt
        by_cases hmt : m < p.length
        · have hm1 : (m : Int) < (p.length : Int) := by omega
          have hm0 : (0 : Int) ≤ (m : Int) := by omega
          obtain ⟨B, hB⟩ : ∃ B, G'[m]? = some B := ⟨G'[m]'(by rw [HG1.out, ← HPN.out]; omega), List.getElem?_eq_getElem _⟩
          obtain ⟨⟨F, sa, sc⟩, hx⟩ : ∃ x : FV, p[m]? = some x := ⟨p[m], List.getElem?_eq_getElem hmt⟩
          have HPT := Lib.hid (Venn.pick_take G' p m B (F, sa, sc) hB hx)
          have hcell : wi.cell? ⟨w.heap.size, m, none⟩ = some (.bool B) := ((HBG.out.keep hbz).cell m).trans (bArr_at hB)
          have hlb := (HBG.out.keep hbz).lt
          obtain ⟨e0, e1⟩ := fCells_at p m _ hx
          obtain ⟨ad, rfl, g0⟩ := HR.out _ _ e0
          obtain ⟨ad1, e1', g1⟩ := HR.out _ _ e1
          cases e1'
          rw [adr_add _ _ _ (by decide)] at g1
          have hwi := Below.next hw1 hbz
          replace g0 := cell_keep hwi g0
          replace g1 := cell_keep hwi g1
          have hxo := HOK.out _ (List.mem_of_getElem? hx)
          simp only at hxo g0 g1
          have HXO := Lib.hid hxo
          have hcl := Venn.pick_len G' (p.take m)
          rw [← hcnt, List.length_take] at hcl
          clear hB hx e0 e1 hxo hrow hcnt
          cases B
          · obtain ⟨q1, k1, rfl⟩ := HXO.out.1.slice
            obtain ⟨q2, k2, rfl⟩ := HXO.out.2.slice
            have HFO := Lib.hid (show FOk (wi.alloc (.cells #[.slice q1 F.atoms.length k1, .slice q2 F.code.length k2] 25)) [(F, .slice q1 F.atoms.length k1, .slice q2 F.code.length k2)] from fun x hx => by
              rw [List.mem_singleton.1 hx]
              exact ⟨HXO.out.1.keep (by (repeat' (first | (with_reducible exact Below.refl _ _) | (with_reducible assumption) | (with_reducible refine Below.next ?_ (by with_reducible assumption)) | (with_reducible refine Below.drew ?_) | (with_reducible refine Below.laid ?_ _) | (with_reducible refine Below.setCell ?_ ?_ _) | (with_reducible refine size_of ?_) | (with_reducible refine Nat.le_succ_of_le ?_) | go_size))), HXO.out.2.keep (by (repeat' (first | (with_reducible exact Below.refl _ _) | (with_reducible assumption) | (with_reducible refine Below.next ?_ (by with_reducible assumption)) | (with_reducible refine Below.drew ?_) | (with_reducible refine Below.laid ?_ _) | (with_reducible refine Below.setCell ?_ ?_ _) | (with_reducible refine size_of ?_) | (with_reducible refine Nat.le_succ_of_le ?_) | go_size)))⟩)
            have HRD := Lib.hid (show Rd (wi.alloc (.cells #[.slice q1 F.atoms.length k1, .slice q2 F.code.length k2] 25)) (some ⟨wi.heap.size, 0, none⟩) (fCells [(F, .slice q1 F.atoms.length k1, .slice q2 F.code.length k2)]) from rdBlk (Blk.new wi _ _))
            have HRA := Lib.hid (HRW.out.alloc (.cells #[.slice q1 F.atoms.length k1, .slice q2 F.code.length k2] 25))
            have hszi := hbz.size
            go_upto_region 12 with (fail)
            go_wp2_with (at_builtin; refine wpList_appF _ rfl _ _ rfl w1.heap.size _ cnt _ rfl HRA.out ⟨wi.heap.size, 0, none⟩ 1 [(F, .slice q1 F.atoms.length k1, .slice q2 F.code.length k2)] rfl HRD.out HFO.out (by simp; omega) (by simp; omega) ?_)
            intro v3 w3 hown3 hg3
            have hz3 : Below w1.heap.size w1 w3 := (hbz.alloc (by omega) _).grown hg3 (by simp; omega) (fun g hg => (HRW.out.lt g hg).1)
            go_wp2
            go_roundw
            case rel => exact ⟨m + 1, cnt + 1, by omega, by go_num, by rw [HPT.out, HCN.out]; simp, hz3, by rw [HPT.out, if_neg (by decide), fCells_app]; simpa using hown3⟩
            case measure => simp [intOf]; omega
          · go_wp2
            go_roundw
            case rel => exact ⟨m + 1, cnt, by omega, by go_num, by rw [HPT.out, HCN.out]; simp, hbz, by rw [HPT.out]; simpa using HRW.out⟩
            case measure => simp [intOf]; omega
        · obtain rfl : m = p.length := by omega
          rw [List.take_length] at HRW HCN
          have hwi := Below.next hw1 hbz
          have HFI := Lib.hid (forms_of_own HRW.out (show FOk wi (Venn.pick G' p) from fun x hx => ⟨(HOK.out x (Venn.pick_mem _ _ x hx)).1.keep hwi, (HOK.out x (Venn.pick_mem _ _ x hx)).2.keep hwi⟩))
          rw [← HPE.out] at HFI
          have HOPN := Lib.hid (fun W h => ref_Open (.slice V2 cnt c2) (Venn.pick G' l) u W h HF1.out hu)
          obtain ⟨OB, hOB⟩ : ∃ b, b = Venn.openV (Venn.pick G' l) u := ⟨_, rfl⟩
          rw [← hOB] at HOPN
          have HOB := Lib.hid hOB
          clear hrow hcnt hOB
          go_wp2_with fail
          refine (HOPN.out _ HFI.out).mono ?_
          rintro e w4 ⟨rfl, hb4⟩
          have hz4 := Below.next hbz hb4
          have hw4 := Below.next hwi hb4
          have hB4 := (HBG.out.keep hbz).keep hb4
          have hO4 := own_below (own_below HOW.out hbz) hb4
          have hs1 := hbz.size
          have hs4 := hb4.size
          have hlb4 := hB4.lt
          cases OB
          · obtain ⟨hrC, hoC⟩ := HSH.out HOB.out.symm
            have HRC := Lib.hid hrC
            have HOC := Lib.hid hoC
            clear hrC hoC
            go_wp2
            go_roundw
            case rel => exact ⟨K + 1, G', out, by omega, by go_num, by rw [HOC.out, HOUT.out], HRC.out, hw4, by omega, hB4, hO4⟩
            case measure => simp [intOf]; omega
          · obtain ⟨hrC, hoC⟩ := HOP.out HOB.out.symm
            have HRC := Lib.hid hrC
            have HOC := Lib.hid hoC
            have hKG : K < G'.length := by rw [HG1.out, ← HPN.out]; omega
            have hcell : w4.cell? ⟨w.heap.size, K, none⟩ = some (.bool G'[K]) := (hB4.cell K).trans (bArr_at (List.getElem?_eq_getElem hKG))
            have hfz := hB4.frozen K
            have hB5 := hB4.set_ K (.bool false)
            rw [bArr_set] at hB5
            have hw5 : Below w.heap.size w (w4.setCell ⟨w.heap.size, K, none⟩ (.bool false)) := hw4.setCell (Nat.le_refl _) _
            have hO5 : (w4.setCell ⟨w.heap.size, K, none⟩ (.bool false)).ownsRow w0.heap.size 3 1 (.slice V1 out.length c1) out.length (out.map (Value.int .i64)) := own_but hO4 ((But.refl (fun b => b = w.heap.size) w4).set_ (p := ⟨w.heap.size, K, none⟩) rfl _) (fun b e he => by have := (hO4.lt b e).1; omega)
            have hs5 : w0.heap.size ≤ (w4.setCell ⟨w.heap.size, K, none⟩ (.bool false)).heap.size := by simp; omega
            have hlo : out.length ≤ 6 := by
              have := (Venn.coreGo_len l u K (by have := HPN.out; omega)).1
              rw [← HOUT.out] at this
              omega
            clear hrC hoC
            go_upto_region 16 with (fail)
            clear hcell hfz hB4 hO4 hlb4 hw4
            revert hB5 hw5 hO5 hs5
            generalize World.setCell _ _ _ = w5
            intro hB5 hw5 hO5 hs5
            have HO5 := Lib.hid (hO5.alloc (.cells #[.int .i64 (K : Int)] 3))
            have hlb5 := hB5.lt
            go_wp2_with (at_builtin; refine wpList_app1 _ rfl _ _ rfl w0.heap.size (.slice V1 out.length c1) out.length _ rfl HO5.out w5.heap.size 1 (K : Int) rfl ?hy1 (by omega) (by simp; omega) ?_)
            case hy1 => exact (Blk.new w5 3 #[.int .i64 (K : Int)]).cell 0
            intro v6 w6 hown6 hg6
            have hw6 : Below w.heap.size w w6 := (Below.laid hw5 _).grown hg6 (by have := hw5.size; simp; omega) (fun g hg => by have := (hO5.lt g hg).1; omega)
            have hB6 := (hB5.alloc (.cells #[.int .i64 (K : Int)] 3)).but (But.of_grown hg6) (fun e => by have := (hO5.lt _ e).1; omega)
            have hs6 := hg6.size
            simp at hs6
            go_wp2
            go_roundw
            case rel => exact ⟨K + 1, _, out ++ [(K : Int)], by omega, by go_num, by rw [HOC.out, HOUT.out], HRC.out, hw6, by omega, hB6, by rw [hs0]; simpa using hown6⟩
            case measure => simp [intOf]; omega
    · obtain rfl : K = p.length := by omega
      have HII := Lib.hid (IsInts.of_own hown)
      rw [HOUT.out] at HII
      go_wp2
      go_ret
      exact ⟨_, rfl, hb, by simpa [← HOUT.out] using HII.out⟩
end Go.Proofs.YtcecbpbpknphjaaDoor

/-
  read32: walked.
-/
import Derived.Test.YtadncponjpdcmaaGreatDoorRJoin
import Derived.BigQuiet
import Derived.Deep.Cut
import Derived.Deep.CutRange
import Derived.Deep.LoopGhost
namespace Go.Proofs.YtadncponjpdcmaaGreatDoor
open Go.RowKit

structure VersesOk (vs : List VerseL) : Prop where
  few : vs.length ≤ 12
  each : ∀ v ∈ vs, VerseOk v

def opsV (vs : List VerseL) : List OpL := vs.map opV
def linesV (vs : List VerseL) : List Bs := (opsV vs).map lineL

theorem VersesOk.good {vs : List VerseL} (h : VersesOk vs) : AllGood (opsV vs) (linesV vs) := by
  refine ⟨by simp [linesV], by simp [linesV, opsV]; exact h.few, fun i hi => ?_⟩
  have hi2 : i < vs.length := by simpa [opsV] using hi
  have e : (opsV vs)[i] = opV vs[i] := by simp [opsV]
  have e2 : (linesV vs).getD i [] = lineL (opV vs[i]) := by simp [linesV, opsV, List.getD, hi2]
  rw [e, e2]
  have hv := h.each vs[i] (List.getElem_mem hi2)
  exact ⟨good_op _ hv, good_line _ hv⟩

theorem cut_text (P l T : Bs) : (⟨(P ++ (l ++ [10])).toArray⟩ : ByteArray) ++ (⟨T.toArray⟩ : ByteArray).extract (P.length + (l.length + 1) - l.length - 1) T.length = ⟨(P ++ l ++ [10] ++ T.drop P.length).toArray⟩ := by
  have e : P.length + (l.length + 1) - l.length - 1 = P.length := by omega
  rw [e]
  apply ByteArray.ext
  apply Array.ext'
  simp [ByteArray.data_append, ByteArray.data_extract, List.extract]
  rw [List.take_of_length_le (by simp)]

theorem str_three (a b : Bs) : Value.string (⟨a.toArray⟩ ++ ⟨b.toArray⟩ ++ ⟨#[10]⟩) = str (a ++ b ++ [10]) := by
  congr 1

theorem own_apart {w : World} {b1 b2 : Nat} {e1 e2 : TypeId} {s1 s2 n1 n2 : Nat} {v1 v2 : Value} {x1 x2 : List Value} (h1 : w.ownsRow b1 e1 s1 v1 n1 x1) (h2 : w.ownsRow b2 e2 s2 v2 n2 x2) (hne : e1 ≠ e2) :
    v1.ownBlock = none ∨ v1.ownBlock ≠ v2.ownBlock := by
  rcases h1.2 with ⟨rfl, _⟩ | ⟨g1, c1, u1, rfl, _, hh1, _⟩
  · exact .inl rfl
  rcases h2.2 with ⟨rfl, _⟩ | ⟨g2, c2, u2, rfl, _, hh2, _⟩
  · right; simp [Value.ownBlock]
  · right
    intro e
    have : g1 = g2 := by simpa [Value.ownBlock] using e
    subst this
    rw [hh1] at hh2
    injection hh2 with hh2
    injection hh2 with _ ht
    exact hne ht

theorem kAt_lt {bl : List Nat} (h : ∀ k ∈ bl, k < 256) (i : Nat) : kAt bl i < 256 := by
  unfold kAt
  split
  · omega
  · have hq : i % bl.length < bl.length := Nat.mod_lt _ (by omega)
    have := h bl[i % bl.length] (List.getElem_mem hq)
    simpa [List.getD, hq] using this

theorem more_at (k : Nat) : (#[Value.string ⟨#[]⟩, Value.string ⟨#[10]⟩, Value.string ⟨#[35, 32, 112, 117, 116, 32, 97, 32, 98, 10]⟩, Value.string ⟨#[32, 32, 32, 10]⟩, Value.string ⟨#[32, 35, 120, 10, 10]⟩] : Array Value)[k % 5]? = some (str (moreL k)) := by
  have hk : k % 5 = 0 ∨ k % 5 = 1 ∨ k % 5 = 2 ∨ k % 5 = 3 ∨ k % 5 = 4 := by omega
  unfold moreL moreR
  rcases hk with h | h | h | h | h <;> rw [h] <;> rfl

/-- What stands in the first loop, at i ops. -/
structure RLoop (vs : List VerseL) (bl : List Nat) (loose : Bs) (odd : Nat) (w : World) (i : Nat) (v9 v10 v11 v12 v13 v15 : Value) (wx : World) : Prop where
  ops : wx.ownsRow w.heap.size 33 8 v9 i (opsCells ((opsV vs).take i))
  all : wx.ownsRow w.heap.size 9 1 v10 i (((linesV vs).take i).map str)
  text : v11 = str (glue (rowsN bl (linesV vs) i))
  rows : v12 = .int .i64 (rowsN bl (linesV vs) i).length
  at_ : v13 = if odd < i then .int .i64 ((rowsN bl (linesV vs) odd).length + 1) else .int .i64 (-1)
  wrong : v15 = if odd < i then str (glue (rowsN bl (linesV vs) odd) ++ loose ++ [10]) else str []
  below : Below w.heap.size w wx

set_option maxHeartbeats 8000000 in
set_option maxRecDepth 100000 in
theorem read32_odd (B : Nat) (A Ab : Option Addr) (c nb cb : Nat) (vs : List VerseL) (bl : List Nat) (which wh : Nat) (w : World)
    (h : Reads w B 8 A vs.length (versesCells vs)) (hb : Reads w B 1 Ab nb (bl.map fun k : Nat => Value.int .u8 k)) (hB : B ≤ w.heap.size) (hvs : VersesOk vs) (hbl : ∀ k ∈ bl, k < 256) (hw1 : which < 256) (hw2 : wh < 256) (hG : Glob w) :
    Calls Tryz.prog 7 #[.slice A vs.length c, .slice Ab nb cb, .int .u8 which, .int .u8 wh] w fun e w' => e = .returned (.bool true) ∧ Below w.heap.size w w' := by
  obtain ⟨i0, z0', hi, hz0, hzs, hz1, hz2⟩ := info_of info33
  have HI := Lib.hid hi
  have HZ0 := Lib.hid hz0
  have HZS := Lib.hid hzs
  have HZ1 := Lib.hid hz1
  have HZ2 := Lib.hid hz2
  clear hi hz0 hzs hz1 hz2
  obtain ⟨j0, hj, hj0, hj1, hj2⟩ : ∃ i, Tryz.prog.info? 9 = some i ∧ i.zero = some (.string ⟨#[]⟩) ∧ i.size = 1 ∧ i.bytes = 16 := info_parts info9
  have HJ := Lib.hid hj
  have HJ0 := Lib.hid hj0
  have HJ1 := Lib.hid hj1
  have HJ2 := Lib.hid hj2
  clear hj hj0 hj1 hj2
  obtain ⟨odd, hodd⟩ : ∃ odd, wh % (vs.length + 1) = odd := ⟨_, rfl⟩
  obtain ⟨loose, hloose⟩ : ∃ loose, looseL.getD (which % 22) [] = loose := ⟨_, rfl⟩
  have hol : odd ≤ vs.length := by have h := Nat.mod_lt wh (y := vs.length + 1) (by omega); rw [hodd] at h; omega
  have hrem : ((wh : Int).tmod (vs.length + 1)) = odd := by
    rw [Int.tmod_eq_emod_of_nonneg (by omega), ← hodd]; simp
  have h12 := hvs.few
  have H := Lib.hid h
  have HBL := Lib.hid hb
  have HVS := Lib.hid hvs
  have HBB := Lib.hid hbl
  have HG := Lib.hid hG
  have HLO := Lib.hid hloose
  clear h hb hvs hbl hG hloose hodd
  go_enter Tryz.func7, Tryz.ntmps7
  go_wp2_with fail
  go_quiet (fail)
  go_wp2_with fail
  go_loopg [9, 10, 11, 12, 13, 15, 16] (vs.length + 1)
    (fun g u9 u10 u11 u12 u13 u15 u16 wx => ∃ i : Nat, i ≤ vs.length ∧ g = vs.length + 1 - i ∧ u16 = .int .i64 i ∧ RLoop vs bl loose odd w i u9 u10 u11 u12 u13 u15 wx)
  case atStart => exact ⟨0, Nat.zero_le _, rfl, rfl, ⟨⟨rfl, .inl ⟨rfl, rfl⟩⟩, ⟨rfl, .inl ⟨rfl, rfl⟩⟩, rfl, rfl, rfl, rfl, below_drewN (Below.refl _ _) _⟩⟩
  case round =>
    obtain ⟨i, hi, rfl, rfl, hR⟩ := hrel
    obtain ⟨A9, c9, rfl, hc9, hm9⟩ := own_slice hR.ops
    obtain ⟨A10, c10, rfl, hc10, hm10⟩ := own_slice hR.all
    obtain rfl := hR.text
    obtain rfl := hR.rows
    have HR := Lib.hid hR
    clear hR
    go_upto_if 57 with fail
    go_cut [13, 15] from 49 to 160 (fun v13 v15 wc => v13 = (if odd < i + 1 then .int .i64 ((rowsN bl (linesV vs) odd).length + 1) else .int .i64 (-1)) ∧ v15 = (if odd < i + 1 then str (glue (rowsN bl (linesV vs) odd) ++ loose ++ [10]) else str []) ∧ Below wr.heap.size wr wc)
    case first => 
      by_cases hio : i = odd
      · subst hio
        have hno : ((i : Int) == (i : Int)) = true := by simp
        have h22 : (which : Int).tmod 22 = ((which % 22 : Nat) : Int) := by rw [Int.tmod_eq_emod_of_nonneg (by omega)]; omega
        have hlt22 : which % 22 < 22 := Nat.mod_lt _ (by omega)
        obtain ⟨q, hq⟩ : ∃ q, which % 22 = q := ⟨_, rfl⟩
        rw [hq] at h22 hlt22
        have hlo := HLO.out
        rw [hq] at hlo
        have hrn := (rowsN_ok HVS.out.good bl i (by simp [opsV]; omega))
        have hrl := hrn.2.1
        have hgl := hrn.2.2
        have HGL := Lib.hid hgl
        have hlen : (rowsN bl (linesV vs) i).length ≤ 40 := by omega
        have hgl2 : (glue (rowsN bl (linesV vs) i)).length ≤ 200000 := by omega
        have hlol : loose.length ≤ 100 := by
          have : ∀ l ∈ looseL, l.length ≤ 100 := by decide
          rw [← hlo]
          exact this _ (by
            have hq2 : q < looseL.length := by rw [loose_len]; exact hlt22
            simp [List.getD, hq2])
        clear hrn hrl hgl
        go_wp2_with fail
        refine (loose_any _).mono ?_
        rintro e w1 ⟨rfl, hw1⟩
        have hb1 : Below wr.heap.size wr w1 := by rw [← hw1]; exact (Below.refl _ wr).alloc (Nat.le_refl _) _
        have hB1 : Blk w1 wr.heap.size 9 (looseL.map str).toArray := by rw [← hw1]; exact Blk.new wr 9 _
        have HB1 := Lib.hid hb1
        have HL1 := Lib.hid hB1
        clear hw1 hb1 hB1
        go_wp2_with fail
        refine (loose_any _).mono ?_
        rintro e w2 ⟨rfl, hw2⟩
        have hb2 : Below w1.heap.size w1 w2 := by rw [← hw2]; exact (Below.refl _ w1).alloc (Nat.le_refl _) _
        have hB2 : Blk w2 wr.heap.size 9 (looseL.map str).toArray := HL1.out.below hb2 HL1.out.lt
        have hb3 := HB1.out.trans (hb2.mono HB1.out.size)
        have x0 : w2.cell? ⟨wr.heap.size, q, none⟩ = some (str loose) := by
          have hq2 : q < looseL.length := by rw [loose_len]; exact hlt22
          rw [hB2.cell q, ← hlo]
          simp [List.getD, hq2]
        have HB3 := Lib.hid hb3
        have HLO2 := Lib.hid hlo
        clear hw2 hb2 hB2 hb3 hlo
        go_wp2_with fail
        go_meet
        exact ⟨by rw [if_pos (by omega)], by rw [if_pos (by omega)]; exact str_three _ _, HB3.out⟩
      · have hno : ((i : Int) == (odd : Int)) = false := by simp; omega
        have h13 : u13 = (if odd < i + 1 then .int .i64 ((rowsN bl (linesV vs) odd).length + 1) else .int .i64 (-1)) := by
          rw [HR.out.at_]
          by_cases h : odd < i
          · rw [if_pos h, if_pos (by omega)]
          · rw [if_neg h, if_neg (by omega)]
        have h15 : u15 = (if odd < i + 1 then str (glue (rowsN bl (linesV vs) odd) ++ loose ++ [10]) else str []) := by
          rw [HR.out.wrong]
          by_cases h : odd < i
          · rw [if_pos h, if_pos (by omega)]
          · rw [if_neg h, if_neg (by omega)]
        have H13 := Lib.hid h13
        have H15 := Lib.hid h15
        clear h13 h15
        go_wp2_with fail
        go_meet
        exact ⟨H13.out, H15.out, Below.refl _ _⟩
    case rest =>
      obtain ⟨h13, h15, hbc⟩ := hcut
      have H13 := Lib.hid h13
      have H15 := Lib.hid h15
      have HBC := Lib.hid hbc
      clear h13 h15 hbc
      obtain rfl | hlt : i = vs.length ∨ i < vs.length := by omega
      · have hni : ((vs.length : Int) == (vs.length : Int)) = true := by simp
        have hbw2 : Below w.heap.size w wc := HR.out.below.trans (HBC.out.mono HR.out.below.size)
        have hGd := HVS.out.good
        have hops : wc.ownsRow w.heap.size 33 8 (.slice A9 vs.length c9) vs.length (opsCells (opsV vs)) := by
          have := own_below HR.out.ops HBC.out
          rwa [List.take_of_length_le (by simp [opsV])] at this
        have hall : wc.ownsRow w.heap.size 9 1 (.slice A10 vs.length c10) vs.length ((linesV vs).map str) := by
          have := own_below HR.out.all HBC.out
          rw [List.map_take, List.take_of_length_le (by simp [linesV, opsV])] at this
          exact this
        have hnl : (linesV vs).length = vs.length := by simp [linesV, opsV]
        have hno : (opsV vs).length = vs.length := by simp [opsV]
        have hshort : ∀ l ∈ linesV vs, l.length ≤ 4000 := by
          intro l hl
          obtain ⟨o, ho, rfl⟩ := List.mem_map.1 hl
          obtain ⟨v, hv, rfl⟩ := List.mem_map.1 ho
          exact line_short v (HVS.out.each v hv)
        have hJl := join_nl_length (linesV vs) hshort (by omega)
        have c13 := join_row (linesV vs) w.heap.size A10 c10 10 wc (by rw [hnl]; exact hall) (by omega) (by omega)
        rw [hnl] at c13
        obtain ⟨J, hJ⟩ : ∃ J, Lib.join (linesV vs) [10] = J := ⟨_, rfl⟩
        rw [hJ] at c13 hJl
        have HJ := Lib.hid hJ
        have HGD := Lib.hid hGd
        have HBW2 := Lib.hid hbw2
        have HOPS := Lib.hid hops
        have HALL := Lib.hid hall
        have HNL := Lib.hid hnl
        have HNO := Lib.hid hno
        have HSH := Lib.hid hshort
        have C13 := Lib.hid c13
        clear hJ hGd hbw2 hops hall hnl hno hshort c13
        go_wp2_with fail
        refine C13.out.mono ?_
        rintro e w1 ⟨rfl, hb1⟩
        have hbw1 := HBW2.out.trans (hb1.mono HBW2.out.size)
        have hops1 := own_below HOPS.out hb1
        have hall1 := own_below HALL.out hb1
        obtain ⟨w2, hw2⟩ : ∃ w2 : World, w2 = w1.alloc (.cells #[.string ⟨#[]⟩, .string ⟨#[45]⟩, .string ⟨#[97, 32, 98]⟩, .string ⟨#[195, 169, 37]⟩, .string ⟨#[233]⟩, .string ⟨#[0, 127]⟩, str J] 9) := ⟨_, rfl⟩
        have hb12 : Below w1.heap.size w1 w2 := by rw [hw2]; exact (Below.refl _ w1).alloc (Nat.le_refl _) _
        have hB2 : Blk w2 w1.heap.size 9 ((sevenL J).map str).toArray := by rw [hw2]; exact Blk.new w1 9 _
        have hbw2 := hbw1.trans (hb12.mono hbw1.size)
        have hops2 := own_below hops1 hb12
        have hall2 := own_below hall1 hb12
        have HW2 := Lib.hid hw2
        have HB2 := Lib.hid hB2
        have HBW := Lib.hid hbw2
        have HOP := Lib.hid hops2
        have HAL := Lib.hid hall2
        clear hb1 hbw1 hops1 hall1 hw2 hb12 hB2 hbw2 hops2 hall2
        go_wp2_with fail
        rw [← HW2.out]
        go_loopg [165] 8 (fun g u165 wx => ∃ j : Nat, j ≤ 7 ∧ g = 8 - j ∧ u165 = .int .i64 j ∧ Below w2.heap.size w2 wx)
        case atStart => exact ⟨0, by omega, rfl, rfl, Below.refl _ _⟩
        case round =>
          obtain ⟨j, hj, rfl, rfl, hbx⟩ := hrel
          have HBX := Lib.hid hbx
          clear hbx
          obtain rfl | hj7 : j = 7 ∨ j < 7 := by omega
          · have hGx := HG.out.below (HBW.out.trans (HBX.out.mono HBW.out.size)) HG.out.size
            have hopsX := own_below HOP.out HBX.out
            have hallX := own_below HAL.out HBX.out
            have hgo : ∀ o ∈ opsV vs, GoodOp o := fun o ho => by
              obtain ⟨v, hv, rfl⟩ := List.mem_map.1 ho
              exact good_op v (HVS.out.each v hv)
            have c21 := Lines_any wr.heap.size A9 c9 (opsV vs) wr (by rw [HNO.out]; exact Reads.of_own hopsX) (Nat.le_refl _) hgo (by rw [HNO.out]; omega) hGx
            have hD : (opsV vs).map lineL = linesV vs := rfl
            rw [HNO.out, hD] at c21
            have hDl : (glue (linesV vs)).length ≤ 300000 := by
              have h1 := glue_length (linesV vs) (fun l hl => by have := HSH.out l hl; omega)
              have h2 : (linesV vs).length ≤ 12 := by rw [HNL.out]; omega
              have := Nat.mul_le_mul_right 20001 h2
              omega
            have hrn := rowsN_ok HGD.out bl vs.length (by rw [HNO.out]; exact Nat.le_refl _)
            have c22 : ∀ wx, Glob wx → Calls Tryz.prog 22 #[.string ⟨(glue (rowsN bl (linesV vs) vs.length)).toArray⟩] wx (ParsePost (opsV vs, 0, 0) wx) := fun wx hx => by
              have h1 := Parse_any ⟨(glue (rowsN bl (linesV vs) vs.length)).toArray⟩ (rowsN bl (linesV vs) vs.length) wx (by show (glue (rowsN bl (linesV vs) vs.length)).toArray.size ≤ _; rw [List.size_toArray]; have := hrn.2.2; omega) (rows_glue _ hrn.1) (by have := hrn.2.1; omega) hx
              have h2 := parse_all HGD.out bl
              rw [HNO.out] at h2
              rw [h2] at h1
              exact h1
            have c22b : ∀ wx, Glob wx → Calls Tryz.prog 22 #[.string ⟨J.toArray⟩] wx (ParsePost (opsV vs, 0, 0) wx) := fun wx hx => by
              have h1 := Parse_any ⟨J.toArray⟩ (linesV vs) wx (by show J.toArray.size ≤ _; rw [List.size_toArray]; omega) (by
                show IsRows J (linesV vs)
                rw [← HJ.out]
                apply rows_join
                intro p hp
                obtain ⟨i, hi, rfl⟩ := List.getElem_of_mem hp
                have hio : i < (opsV vs).length := by rw [HNO.out, ← HNL.out]; exact hi
                obtain ⟨_, h2⟩ := HGD.out.each i hio
                have e : (linesV vs).getD i [] = (linesV vs)[i] := by simp [List.getD, hi]
                rw [e] at h2
                exact ⟨h2.nl, h2.ne⟩) (by rw [HNL.out]; omega) hx
              rw [parse_plain HGD.out] at h1
              exact h1
            have c23 : ∀ wx, Calls Tryz.prog 23 #[.string ⟨(glue (linesV vs)).toArray⟩, .string ⟨#[10]⟩] wx fun e w' => e = .returned (str J) ∧ wx = w' := fun wx => by
              refine (Tryz.strings_TrimSuffix ⟨(glue (linesV vs)).toArray⟩ ⟨#[10]⟩ wx (by show (glue (linesV vs)).toArray.size ≤ _; rw [List.size_toArray]; omega)).mono ?_
              rintro e w' ⟨rfl, rfl⟩
              have h1 : Lib.trimSuffix (⟨(glue (linesV vs)).toArray⟩ : ByteArray).data.toList (⟨#[10]⟩ : ByteArray).data.toList = J := by rw [← HJ.out]; exact trim_glue _
              rw [h1]
              exact ⟨rfl, rfl⟩
            have HGX := Lib.hid hGx
            have HOPX := Lib.hid hopsX
            have HALX := Lib.hid hallX
            have HRN := Lib.hid hrn
            have C21 := Lib.hid c21
            have C22 := Lib.hid c22
            have C22B := Lib.hid c22b
            have C23 := Lib.hid c23
            clear hGx hopsX hallX hgo c21 hD hrn c22 c22b c23
            go_wp2_with fail
            refine C21.out.mono ?_
            rintro e w3 ⟨rfl, hb3⟩
            have hG3 := HGX.out.below hb3 HGX.out.size
            have HG3 := Lib.hid hG3
            have HB3 := Lib.hid hb3
            clear hG3 hb3
            go_wp2_with fail
            refine (C22.out _ HG3.out).mono ?_
            rintro e w4 ⟨Aa, ca, rfl, hra, hb4⟩
            have hG4 := HG3.out.below hb4 HG3.out.size
            have HB4 := Lib.hid (HB3.out.trans (hb4.mono HB3.out.size))
            have HG4 := Lib.hid hG4
            have HRA := Lib.hid hra
            clear hG4 hb4 hra
            go_wp2_with fail
            refine (C23.out _).mono ?_
            rintro e w5 ⟨rfl, rfl⟩
            go_wp2_with fail
            refine (C22B.out _ HG4.out).mono ?_
            rintro e w5 ⟨Ab2, cb2, rfl, hrb, hb5⟩
            have hG5 := HG4.out.below hb5 HG4.out.size
            have HB5 := Lib.hid (HB4.out.trans (hb5.mono HB4.out.size))
            have HG5 := Lib.hid hG5
            have HRA5 := Lib.hid (HRA.out.below hb5)
            have HSZ45 := Lib.hid hb5.size
            have HRB := Lib.hid hrb
            have hal5 := Reads.of_own (own_below HALX.out HB5.out)
            have hop5 := Reads.of_own (own_below HOPX.out HB5.out)
            have HAL5 := Lib.hid hal5
            have HOP5 := Lib.hid hop5
            clear hG5 hb5 hrb hal5 hop5
            go_wp2_with fail
            go_loopg [37, 210] (vs.length + 1) (fun g u37 u210 wx => ∃ j : Nat, j ≤ vs.length ∧ g = vs.length + 1 - j ∧ u210 = .int .i64 j ∧ u37 = str (glue ((linesV vs).take j)) ∧ Below w5.heap.size w5 wx)
            case atStart => exact ⟨0, by omega, rfl, rfl, rfl, Below.refl _ _⟩
            case round =>
              obtain ⟨j, hj, rfl, rfl, rfl, hbx⟩ := hrel
              have HBY := Lib.hid hbx
              clear hbx
              obtain rfl | hjn : j = vs.length ∨ j < vs.length := by omega
              · have htk : (linesV vs).take vs.length = linesV vs := by rw [← HNL.out, List.take_length]
                rw [htk]
                clear htk
                have hGy := HG5.out.below HBY.out HG5.out.size
                have hra6 := HRA5.out.below (HBY.out.mono (by have := HB5.out.size; have := HB4.out.size; have := HRA5.out; exact HSZ45.out))
                have hrb6 := HRB.out.below HBY.out
                have hop6 := HOP5.out.below HBY.out
                have hnl12 : (opsV vs).length ≤ 1000000 := by rw [HNO.out]; omega
                have c24 : Calls Tryz.prog 24 #[.slice Aa (opsV vs).length ca, .slice A9 vs.length c9] wr fun e w' => e = .returned (.bool true) ∧ Below wr.heap.size wr w' := by
                  have h := Equal_any _ _ Aa A9 ca c9 (opsV vs) wr hra6 (by rw [HNO.out]; exact hop6) hnl12
                  rw [HNO.out] at h ⊢
                  exact h
                obtain ⟨P, hP⟩ : ∃ P, glue (rowsN bl (linesV vs) odd) = P := ⟨_, rfl⟩
                have h15 : u15 = str (P ++ loose ++ [10]) := by rw [H15.out, if_pos (by omega), hP]
                have h13 : u13 = .int .i64 ((rowsN bl (linesV vs) odd).length + 1) := by rw [H13.out, if_pos (by omega)]
                have HP := Lib.hid hP
                have C24 := Lib.hid c24
                have HRB6 := Lib.hid hrb6
                have HOP6 := Lib.hid hop6
                have HGY := Lib.hid hGy
                clear hGy hra6 hrb6 hop6 c24 hP
                subst h15 h13
                go_wp2_with fail
                refine C24.out.mono ?_
                rintro e w6 ⟨rfl, hb6⟩
                have hrb7 := HRB6.out.below (hb6.mono HBY.out.size)
                have hop7 := HOP6.out.below (hb6.mono HBY.out.size)
                have c24b : Calls Tryz.prog 24 #[.slice Ab2 (opsV vs).length cb2, .slice A9 vs.length c9] w6 fun e w' => e = .returned (.bool true) ∧ Below w6.heap.size w6 w' := by
                  have h := Equal_any _ _ Ab2 A9 cb2 c9 (opsV vs) w6 hrb7 (by rw [HNO.out]; exact hop7) hnl12
                  rw [HNO.out] at h ⊢
                  exact h
                have C24B := Lib.hid c24b
                have hG6 := HGY.out.below hb6 HGY.out.size
                have HG6 := Lib.hid hG6
                have HB6 := Lib.hid hb6
                clear hrb7 hop7 c24b hG6 hb6
                go_wp2_with fail
                refine C24B.out.mono ?_
                rintro e w7 ⟨rfl, hb7⟩
                have hG7 := HG6.out.below hb7 HG6.out.size
                have HG7 := Lib.hid hG7
                have HB7 := Lib.hid (HB6.out.trans (hb7.mono HB6.out.size))
                clear hG7 hb7
                have h22 : (which : Int).tmod 22 = ((which % 22 : Nat) : Int) := by rw [Int.tmod_eq_emod_of_nonneg (by omega)]; omega
                have hlt22 : which % 22 < 22 := Nat.mod_lt _ (by omega)
                obtain ⟨q, hq⟩ : ∃ q, which % 22 = q := ⟨_, rfl⟩
                rw [hq] at h22 hlt22
                have hlo := HLO.out
                rw [hq] at hlo
                have hq2 : q < looseL.length := by rw [loose_len]; exact hlt22
                have hlg : looseL[q] = loose := by rw [← hlo]; simp [List.getD, hq2]
                have hlmem : loose ∈ looseL := by rw [← hlg]; exact List.getElem_mem hq2
                have hlol : loose.length ≤ 100 := by
                  have : ∀ l ∈ looseL, l.length ≤ 100 := by decide
                  exact this _ hlmem
                have hwt := wrong_text HGD.out bl odd (by rw [HNO.out]; exact hol) loose hlmem
                have hsp := rowsN_split bl (linesV vs) (vs.length - odd) odd
                rw [show odd + (vs.length - odd) = vs.length by omega] at hsp
                have hTP : (glue (rowsN bl (linesV vs) vs.length)).length = (glue (rowsN bl (linesV vs) odd)).length + (glue (rowsFrom bl (linesV vs) odd (vs.length - odd))).length := by rw [hsp, glue_app, List.length_append]
                have hTl := HRN.out.2.2
                obtain ⟨T, hT⟩ : ∃ T, glue (rowsN bl (linesV vs) vs.length) = T := ⟨_, rfl⟩
                obtain ⟨R, hR⟩ : ∃ R, (rowsN bl (linesV vs) odd).length = R := ⟨_, rfl⟩
                rw [HNO.out] at hwt
                obtain ⟨t1, t2, t3, t4⟩ := hwt
                rw [hT, HP.out] at t1 t4
                rw [hR] at t2
                rw [hT, HP.out] at hTP
                rw [hT] at hTl ⊢
                rw [hR]
                have hTl2 : T.length ≤ 200000 := by omega
                have hPl : P.length ≤ T.length := by omega
                have hgl2 : (P ++ loose ++ [10] ++ T.drop P.length).length ≤ 400000 := by simp; omega
                have cP : ∀ wx, Glob wx → Calls Tryz.prog 22 #[.string ⟨(P ++ loose ++ [10] ++ T.drop P.length).toArray⟩] wx (ParsePost ([], 1 + R, 320) wx) := fun wx hx => by
                  have h1 := Parse_any ⟨(P ++ loose ++ [10] ++ T.drop P.length).toArray⟩ _ wx (by show (P ++ loose ++ [10] ++ T.drop P.length).toArray.size ≤ _; rw [List.size_toArray]; omega) t1 (by omega) hx
                  rw [t2] at h1
                  exact h1
                have CP := Lib.hid cP
                have HLG := Lib.hid hlg
                clear hsp hTP hTl t1 t2 t3 t4 hT hR cP hlo hlg hlmem hgl2
                go_wp2_with fail
                refine (loose_any _).mono ?_
                rintro e w8 ⟨rfl, hw8⟩
                have hb8 : Below w7.heap.size w7 w8 := by rw [← hw8]; exact (Below.refl _ w7).alloc (Nat.le_refl _) _
                have hB8 : Blk w8 w7.heap.size 9 (looseL.map str).toArray := by rw [← hw8]; exact Blk.new w7 9 _
                have HB8 := Lib.hid hb8
                have HL8 := Lib.hid hB8
                clear hw8 hb8 hB8
                go_wp2_with fail
                refine (loose_any _).mono ?_
                rintro e w9 ⟨rfl, hw9⟩
                have hb9 : Below w8.heap.size w8 w9 := by rw [← hw9]; exact (Below.refl _ w8).alloc (Nat.le_refl _) _
                have hB9 : Blk w9 w7.heap.size 9 (looseL.map str).toArray := HL8.out.below hb9 HL8.out.lt
                have hb79 := HB8.out.trans (hb9.mono HB8.out.size)
                have x0 : w9.cell? ⟨w7.heap.size, q, none⟩ = some (str loose) := by
                  rw [hB9.cell q, ← HLG.out]
                  simp [hq2]
                have HG9 := Lib.hid (HG7.out.below hb79 HG7.out.size)
                have HB79 := Lib.hid hb79
                clear hw9 hb9 hB9 hb79
                go_wp2_with fail
                have hcall := CP.out _ HG9.out
                rw [← cut_text P loose T] at hcall
                refine hcall.mono ?_
                clear hcall
                rintro e w10 ⟨Ac, cc, rfl, _, hb10⟩
                have hbe : Below wc.heap.size wc wc := Below.refl _ _
                have hfin : Below w.heap.size w w10 := by
                  have s1 := HBW.out.trans (HBX.out.mono HBW.out.size)
                  have s2 := s1.trans (HB5.out.mono s1.size)
                  have s3 := s2.trans (HBY.out.mono s2.size)
                  have s4 := s3.trans (HB7.out.mono s3.size)
                  have s5 := s4.trans (HB79.out.mono s4.size)
                  exact s5.trans (hb10.mono s5.size)
                have HFIN := Lib.hid hfin
                have heq : ((((1 + R : Nat) : Int)) == (R : Int) + 1) = true := by simp; omega
                clear hb10 hfin hbe
                go_wp2_with fail
                go_ret
                exact ⟨rfl, HFIN.out⟩
              · obtain ⟨ad, u, hA, hB, hu, hcell⟩ := HAL5.out.at_ hjn
                have hjl : j < (linesV vs).length := by rw [HNL.out]; exact hjn
                obtain ⟨l, hl⟩ : ∃ l, (linesV vs)[j] = l := ⟨_, rfl⟩
                have hu2 : u = str l := by
                  rw [List.getElem?_map, List.getElem?_eq_getElem hjl, hl] at hu
                  simpa using hu.symm
                subst hA hu2
                have hcell2 : wr.cell? (ad.add j) = some (str l) := by rw [HBY.out.cell (by rw [block_of_add]; exact hB)]; exact hcell
                have hll : l.length ≤ 4000 := by rw [← hl]; exact HSH.out _ (List.getElem_mem hjl)
                have hgt : glue ((linesV vs).take (j + 1)) = glue ((linesV vs).take j) ++ (l ++ [10]) := by
                  rw [List.take_succ_eq_append_getElem hjl, hl, glue_app]; simp [glue]
                have hgl : (glue ((linesV vs).take j)).length ≤ 300000 := by
                  have h1 := glue_length ((linesV vs).take j) (fun l hl => by have := HSH.out l (List.mem_of_mem_take hl); omega)
                  have h2 : ((linesV vs).take j).length ≤ 12 := by rw [List.length_take]; omega
                  have := Nat.mul_le_mul_right 20001 h2
                  omega
                obtain ⟨G, hG⟩ : ∃ G, glue ((linesV vs).take j) = G := ⟨_, rfl⟩
                rw [hG] at hgt hgl ⊢
                have HGT := Lib.hid hgt
                clear hgt hG hcell hu hl
                go_wp2_with fail
                go_roundg (vs.length + 1 - (j + 1))
                case measure => omega
                case rel => exact ⟨j + 1, by omega, rfl, by go_num, by rw [HGT.out]; rfl, HBY.out⟩
          · have hjl : j < (sevenL J).length := by simpa [sevenL] using hj7
            obtain ⟨s, hs⟩ : ∃ s, (sevenL J)[j] = s := ⟨_, rfl⟩
            have hsl : s.length ≤ 100000 := by rw [← hs]; exact seven_short J hJl _ (List.getElem_mem hjl)
            have xs : wr.cell? ⟨w1.heap.size, j, none⟩ = some (str s) := by
              rw [HBX.out.cell HB2.out.lt, HB2.out.cell j, ← hs]
              simp [hjl]
            have hGx := HG.out.below (HBW.out.trans (HBX.out.mono HBW.out.size)) HG.out.size
            have c8 : ∀ wx, Glob wx → Calls Tryz.prog 8 #[.string ⟨s.toArray⟩] wx fun e w' => e = .returned (str (wordL s)) ∧ Below wx.heap.size wx w' := fun wx h => worded_any ⟨s.toArray⟩ wx (by show s.toArray.size ≤ _; rw [List.size_toArray]; omega) h
            have c20 : ∀ wx, Glob wx → Calls Tryz.prog 20 #[.string ⟨s.toArray⟩] wx fun e w' => e = .returned (str (wordL s)) ∧ Below wx.heap.size wx w' := fun wx h => Word_any ⟨s.toArray⟩ wx (by show s.toArray.size ≤ _; rw [List.size_toArray]; omega) h
            have hwl := word_length s
            have htw := text_word s
            have c19 : ∀ wx, Glob wx → Calls Tryz.prog 19 #[.string ⟨(wordL s).toArray⟩] wx fun e w' => e = .returned (.tuple #[str s, .bool true]) ∧ Below wx.heap.size wx w' := fun wx h => by
              have := Text_any ⟨(wordL s).toArray⟩ wx (by show (wordL s).toArray.size ≤ _; rw [List.size_toArray]; omega) h
              have e : textL (⟨(wordL s).toArray⟩ : ByteArray).data.toList = some s := htw
              rw [e] at this
              exact this
            obtain ⟨W, hW⟩ : ∃ W, wordL s = W := ⟨_, rfl⟩
            rw [hW] at c8 c20 c19
            have C8 := Lib.hid c8
            have C20 := Lib.hid c20
            have C19 := Lib.hid c19
            have HGX := Lib.hid hGx
            clear hs hwl htw hW c8 c20 c19 hGx
            go_wp2_with fail
            refine (C8.out _ HGX.out).mono ?_
            rintro e w3 ⟨rfl, hb3⟩
            have hG3 := HGX.out.below hb3 HGX.out.size
            have HG3 := Lib.hid hG3
            have HB3 := Lib.hid hb3
            clear hG3 hb3
            go_wp2_with fail
            refine (C19.out _ HG3.out).mono ?_
            rintro e w4 ⟨rfl, hb4⟩
            have hG4 := HG3.out.below hb4 HG3.out.size
            have HB4 := Lib.hid (HB3.out.trans (hb4.mono HB3.out.size))
            have HG4 := Lib.hid hG4
            clear hG4 hb4
            go_wp2_with fail
            refine (C20.out _ HG4.out).mono ?_
            rintro e w5 ⟨rfl, hb5⟩
            have hG5 := HG4.out.below hb5 HG4.out.size
            have HB5 := Lib.hid (HB4.out.trans (hb5.mono HB4.out.size))
            have HG5 := Lib.hid hG5
            clear hG5 hb5
            go_wp2_with fail
            refine (C8.out _ HG5.out).mono ?_
            rintro e w6 ⟨rfl, hb6⟩
            have HB6 := Lib.hid (HB5.out.trans (hb6.mono HB5.out.size))
            clear hb6
            go_wp2_with fail
            go_roundg (8 - (j + 1))
            case measure => omega
            case rel => exact ⟨j + 1, by omega, rfl, by go_num, HBX.out.trans (HB6.out.mono HBX.out.size)⟩
      · have hni : ((i : Int) == (vs.length : Int)) = false := by simp; omega
        obtain ⟨ad, hA, _, hc⟩ := H.out.2 (by omega)
        subst hA
        have hbw2 : Below w.heap.size w wc := HR.out.below.trans (HBC.out.mono HR.out.below.size)
        have hcell : ∀ t, t < 8 → ∀ u, (verseCells vs[i])[t]? = some u → wc.cell? ((ad.add (i * 8)).add t) = some u := fun t ht u hu => by
          rw [add_of_add, hbw2.cell (by rw [block_of_add]; omega)]; exact hc _ u (by rw [versesCells_at vs i t hlt ht]; exact hu)
        obtain ⟨p, hp⟩ : ∃ p, p = ad.add (i * 8) := ⟨_, rfl⟩
        rw [← hp] at hcell
        have hvo := HVS.out.each vs[i] (List.getElem_mem hlt)
        obtain ⟨v, hv⟩ : ∃ v, vs[i] = v := ⟨_, rfl⟩
        rw [hv] at hcell hvo
        have c5 : ∀ wx, Glob wx → Calls Tryz.prog 5 #[.agg (verseCells v)] wx fun e w' => e = .returned (.tuple #[.agg (opCells (opV v)), str (lineL (opV v))]) ∧ Below wx.heap.size wx w' := fun wx hx => verse_any v wx hvo hx
        have hgo := good_op v hvo
        have hgl := good_line v hvo
        obtain ⟨o, ho⟩ : ∃ o, opV v = o := ⟨_, rfl⟩
        rw [ho] at c5 hgo hgl
        obtain ⟨L, hL⟩ : ∃ L, lineL o = L := ⟨_, rfl⟩
        have c6 : ∀ wx, Glob wx → Calls Tryz.prog 6 #[.agg (opCells o)] wx fun e w' => e = .returned (.tuple #[str (lineL o), .int .i64 0]) ∧ Below wx.heap.size wx w' := fun wx hx => Line_any o wx hgo.kind hgo.ok hx hgo.good hgo.back
        rw [hL] at c5 c6 hgl
        have hLs := hgl.short
        have c15 : ∀ wx, Glob wx → Calls Tryz.prog 15 #[.string ⟨L.toArray⟩] wx fun e w' => e = .returned (.tuple #[.agg (opCells o), .int .i64 0]) ∧ Below wx.heap.size wx w' :=
          fun wx hx => Op_yes ⟨L.toArray⟩ wx (by show L.toArray.size ≤ _; rw [List.size_toArray]; omega) hx o (by have := hgo.back; rw [← hgl.ws] at this; exact this)
        have hvc : verseCells v = #[.int .u8 v.k, .bool v.d, str v.nm, str v.tx, .int .i16 v.c0, .int .i16 v.c1, .int .i16 v.c2, .int .i16 v.c3] := rfl
        have x0 : wc.cell? (p.add 0) = some (.int .u8 v.k) := hcell 0 (by omega) _ rfl
        have x1 : wc.cell? ⟨p.block, p.off + 1, none⟩ = some (.bool v.d) := hcell 1 (by omega) _ rfl
        have x2 : wc.cell? ⟨p.block, p.off + 2, none⟩ = some (str v.nm) := hcell 2 (by omega) _ rfl
        have x3 : wc.cell? ⟨p.block, p.off + 3, none⟩ = some (str v.tx) := hcell 3 (by omega) _ rfl
        have x4 : wc.cell? ⟨p.block, p.off + 4, none⟩ = some (.int .i16 v.c0) := hcell 4 (by omega) _ rfl
        have x5 : wc.cell? ⟨p.block, p.off + 5, none⟩ = some (.int .i16 v.c1) := hcell 5 (by omega) _ rfl
        have x6 : wc.cell? ⟨p.block, p.off + 6, none⟩ = some (.int .i16 v.c2) := hcell 6 (by omega) _ rfl
        have x7 : wc.cell? ⟨p.block, p.off + 7, none⟩ = some (.int .i16 v.c3) := hcell 7 (by omega) _ rfl
        rw [add_zero'] at x0
        rw [hp] at x0 x1 x2 x3 x4 x5 x6 x7
        obtain ⟨d, df, nm, tx, m0, m1, m2, m3⟩ := o
        have hop : opCells ⟨d, df, nm, tx, m0, m1, m2, m3⟩ = #[.int .u8 d, .bool df, str nm, str tx, .int .i64 m0, .int .i64 m1, .int .i64 m2, .int .i64 m3] := rfl
        have c16 : ∀ wx, Calls Tryz.prog 16 #[.agg (opCells ⟨d, df, nm, tx, m0, m1, m2, m3⟩), .agg (opCells ⟨d, df, nm, tx, m0, m1, m2, m3⟩)] wx fun e w' => e = .returned (.bool true) ∧ Below wx.heap.size wx w' := fun wx => Same_any _ wx
        rw [hop] at c5 c6 c15 c16
        rw [hvc] at c5
        have hG0 := HG.out.below hbw2 HG.out.size
        have HG0 := Lib.hid hG0
        have HBW2 := Lib.hid hbw2
        have C5 := Lib.hid c5
        have C6 := Lib.hid c6
        have C15 := Lib.hid c15
        have C16 := Lib.hid c16
        have HGO := Lib.hid hgo
        have HGL := Lib.hid hgl
        have HV := Lib.hid hv
        have HO := Lib.hid ho
        have HLL := Lib.hid hL
        clear hc hcell hp hvo hgo hgl c5 c6 c15 c16 hv ho hL hvc hop hG0 hbw2
        go_wp2_with fail
        refine (C5.out _ HG0.out).mono ?_
        rintro e w1 ⟨rfl, hb1⟩
        have hG1 := HG0.out.below hb1 HG0.out.size
        have HB1 := Lib.hid hb1
        have HG1 := Lib.hid hG1
        have hD1 := Blk.new w1 33 #[.int .u8 d, .bool df, str nm, str tx, .int .i64 m0, .int .i64 m1, .int .i64 m2, .int .i64 m3]
        have hb1a := (Below.refl _ w1).alloc (Nat.le_refl _) (.cells #[.int .u8 d, .bool df, str nm, str tx, .int .i64 m0, .int .i64 m1, .int .i64 m2, .int .i64 m3] 33)
        have hG1a := hG1.below hb1a hG1.size
        have HG1A := Lib.hid hG1a
        have HD1 := Lib.hid hD1
        have HB1A := Lib.hid hb1a
        clear hb1 hG1 hD1 hb1a hG1a
        go_wp2_with fail
        refine (C6.out _ HG1A.out).mono ?_
        rintro e w2 ⟨rfl, hb2⟩
        have hb12 := HB1A.out.trans (hb2.mono HB1A.out.size)
        have hG2 := HG1A.out.below hb2 HG1A.out.size
        have hD2 := HD1.out.below hb2 HD1.out.lt
        have HG2 := Lib.hid hG2
        have HB12 := Lib.hid hb12
        have HD2 := Lib.hid hD2
        clear hb2 hb12 hG2 hD2
        go_wp2_with fail
        refine (C15.out _ HG2.out).mono ?_
        rintro e w3 ⟨rfl, hb3⟩
        have hb13 := HB12.out.trans (hb3.mono HB12.out.size)
        have hD3 := HD2.out.below hb3 HD2.out.lt
        have z0 : w3.cell? ⟨w1.heap.size, 0, none⟩ = some (.int .u8 d) := hD3.cell 0
        have z1 : w3.cell? ⟨w1.heap.size, 1, none⟩ = some (.bool df) := hD3.cell 1
        have z2 : w3.cell? ⟨w1.heap.size, 2, none⟩ = some (str nm) := hD3.cell 2
        have z3 : w3.cell? ⟨w1.heap.size, 3, none⟩ = some (str tx) := hD3.cell 3
        have z4 : w3.cell? ⟨w1.heap.size, 4, none⟩ = some (.int .i64 m0) := hD3.cell 4
        have z5 : w3.cell? ⟨w1.heap.size, 5, none⟩ = some (.int .i64 m1) := hD3.cell 5
        have z6 : w3.cell? ⟨w1.heap.size, 6, none⟩ = some (.int .i64 m2) := hD3.cell 6
        have z7 : w3.cell? ⟨w1.heap.size, 7, none⟩ = some (.int .i64 m3) := hD3.cell 7
        have hlt3 : w1.heap.size < w3.heap.size := hD3.lt
        have HB13 := Lib.hid hb13
        have HD3 := Lib.hid hD3
        clear hb3 hb13 hD3
        go_wp2_with fail
        refine (C16.out _).mono ?_
        rintro e w4 ⟨rfl, hb4⟩
        have hD4 := (HD3.out.alloc (.cells #[.int .u8 d, .bool df, str nm, str tx, .int .i64 m0, .int .i64 m1, .int .i64 m2, .int .i64 m3] 33)).below hb4 (HD3.out.alloc _).lt
        have hE4 := (Blk.new w3 33 #[.int .u8 d, .bool df, str nm, str tx, .int .i64 m0, .int .i64 m1, .int .i64 m2, .int .i64 m3]).below hb4 (Blk.new w3 33 _).lt
        have hb34 : Below w3.heap.size w3 w4 := ((Below.refl _ w3).alloc (Nat.le_refl _) _).trans (hb4.mono (by simp))
        have hb14 := HB13.out.trans (hb34.mono HB13.out.size)
        have hbc4 := HB1.out.trans (hb14.mono HB1.out.size)
        have hbr4 := HBC.out.trans (hbc4.mono HBC.out.size)
        have y0 : w4.cell? ⟨w1.heap.size, 0, none⟩ = some (.int .u8 d) := hD4.cell 0
        have y1 : w4.cell? ⟨w1.heap.size, 1, none⟩ = some (.bool df) := hD4.cell 1
        have y2 : w4.cell? ⟨w1.heap.size, 2, none⟩ = some (str nm) := hD4.cell 2
        have y3 : w4.cell? ⟨w1.heap.size, 3, none⟩ = some (str tx) := hD4.cell 3
        have y4 : w4.cell? ⟨w1.heap.size, 4, none⟩ = some (.int .i64 m0) := hD4.cell 4
        have y5 : w4.cell? ⟨w1.heap.size, 5, none⟩ = some (.int .i64 m1) := hD4.cell 5
        have y6 : w4.cell? ⟨w1.heap.size, 6, none⟩ = some (.int .i64 m2) := hD4.cell 6
        have y7 : w4.cell? ⟨w1.heap.size, 7, none⟩ = some (.int .i64 m3) := hD4.cell 7
        have e0 : w4.cell? ⟨w3.heap.size, 0, none⟩ = some (.int .u8 d) := hE4.cell 0
        have e1 : w4.cell? ⟨w3.heap.size, 1, none⟩ = some (.bool df) := hE4.cell 1
        have e2 : w4.cell? ⟨w3.heap.size, 2, none⟩ = some (str nm) := hE4.cell 2
        have e3 : w4.cell? ⟨w3.heap.size, 3, none⟩ = some (str tx) := hE4.cell 3
        have e4 : w4.cell? ⟨w3.heap.size, 4, none⟩ = some (.int .i64 m0) := hE4.cell 4
        have e5 : w4.cell? ⟨w3.heap.size, 5, none⟩ = some (.int .i64 m1) := hE4.cell 5
        have e6 : w4.cell? ⟨w3.heap.size, 6, none⟩ = some (.int .i64 m2) := hE4.cell 6
        have e7 : w4.cell? ⟨w3.heap.size, 7, none⟩ = some (.int .i64 m3) := hE4.cell 7
        have hops4 := own_below HR.out.ops hbr4
        have hall4 := own_below HR.out.all hbr4
        have hnb := Blk.new w4 33 #[.int .u8 d, .bool df, str nm, str tx, .int .i64 m0, .int .i64 m1, .int .i64 m2, .int .i64 m3]
        have HOPS4 := Lib.hid hops4
        have HALL4 := Lib.hid hall4
        have HBR4 := Lib.hid hbr4
        have HNB := Lib.hid hnb
        clear hb4 hD4 hE4 hb34 hb14 hbc4 hbr4 hops4 hall4 hnb z0 z1 z2 z3 z4 z5 z6 z7
        go_wp2_with (at_builtin; refine wpList_append_own _ rfl _ _ 52 rfl w.heap.size 33 i0 z0' 8 72 Tryz.underlying52 HI.out HZ0.out HZ1.out HZ2.out HZS.out (by decide) _ _ _ rfl (HOPS4.out.alloc _) ⟨w4.heap.size, 0, none⟩ 1 1 (opCells ⟨d, df, nm, tx, m0, m1, m2, m3⟩).toList rfl rfl ?c1 ?c2 ?c3 ?c4 ?c5 ?_)
        case c1 =>
          intro j u hj
          rw [add_lit0]
          exact (HNB.out.cell j).trans (by rw [← hj, Array.getElem?_toList]; rfl)
        case c2 => exact opCells_one _
        case c3 => unfold maxLen; omega
        case c4 => omega
        case c5 => simp; have := HR.out.below.size; have := HBR4.out.size; omega
        intro v9' w5 hown5 hgrow5 _
        have hall5 := (HALL4.out.alloc (.cells #[.int .u8 d, .bool df, str nm, str tx, .int .i64 m0, .int .i64 m1, .int .i64 m2, .int .i64 m3] 33)).kept hgrow5 (own_apart (HALL4.out.alloc (.cells #[.int .u8 d, .bool df, str nm, str tx, .int .i64 m0, .int .i64 m1, .int .i64 m2, .int .i64 m3] 33)) (HOPS4.out.alloc (.cells #[.int .u8 d, .bool df, str nm, str tx, .int .i64 m0, .int .i64 m1, .int .i64 m2, .int .i64 m3] 33)) (by decide))
        have hb5 := (((HR.out.below.trans (HBR4.out.mono HR.out.below.size)).alloc (by have := HR.out.below.size; have := HBR4.out.size; omega) (.cells #[.int .u8 d, .bool df, str nm, str tx, .int .i64 m0, .int .i64 m1, .int .i64 m2, .int .i64 m3] 33)).grown hgrow5 (by simp; have := HR.out.below.size; have := HBR4.out.size; omega) (fun k hk => (HOPS4.out.lt k hk).1))
        have hnb2 := Blk.new w5 9 #[str L]
        have HOPS5 := Lib.hid hown5
        have HALL5 := Lib.hid hall5
        have HB5 := Lib.hid hb5
        have HNB2 := Lib.hid hnb2
        clear hown5 hgrow5 hall5 hb5 hnb2 y0 y1 y2 y3 y4 y5 y6 y7 e0 e1 e2 e3 e4 e5 e6 e7
        go_wp2_with (at_builtin; refine wpList_append_own _ rfl _ _ 29 rfl w.heap.size 9 j0 (.string ⟨#[]⟩) 1 16 Tryz.underlying29 HJ.out HJ0.out HJ1.out HJ2.out rfl (by decide) _ _ _ rfl (HALL5.out.alloc _) ⟨w5.heap.size, 0, none⟩ 1 1 [str L] rfl rfl ?d1 ?d2 ?d3 ?d4 ?d5 ?_)
        case d1 =>
          intro j u hj
          rw [add_lit0]
          exact (HNB2.out.cell j).trans (by rw [← hj]; simp)
        case d2 => intro u hu; simp at hu; subst hu; rfl
        case d3 => unfold maxLen; omega
        case d4 => omega
        case d5 => simp; have := HB5.out.size; omega
        intro v10' w6 hown6 hgrow6 _
        have hops6 := (HOPS5.out.alloc (.cells #[str L] 9)).kept hgrow6 (own_apart (HOPS5.out.alloc (.cells #[str L] 9)) (HALL5.out.alloc (.cells #[str L] 9)) (by decide))
        have hb6 := (HB5.out.alloc HB5.out.size (.cells #[str L] 9)).grown hgrow6 (by simp; have := HB5.out.size; omega) (fun k hk => (HALL5.out.lt k hk).1)
        have HOPS6 := Lib.hid hops6
        have HALL6 := Lib.hid hown6
        have HB6 := Lib.hid hb6
        clear hops6 hown6 hgrow6 hb6
        go_upto_if 125 with fail
        go_cut [23] from 49 to 160 (fun v23 wd => v23 = .int .i64 (kAt bl i : Nat) ∧ w6 = wd)
        case first =>
          have hnb : nb = bl.length := by have := HBL.out.1; simp at this; omega
          subst hnb
          by_cases hb0 : bl.length = 0
          · have hk0 : kAt bl i = 0 := by unfold kAt; rw [if_pos hb0]
            have HK0 := Lib.hid hk0
            have hn0 : ¬ (0 < bl.length) := by omega
            clear hk0
            go_wp2_with fail
            go_meet
            exact ⟨by rw [HK0.out]; rfl, rfl⟩
          · have hmod : ((i : Int).tmod (bl.length : Int)) = ((i % bl.length : Nat) : Int) := by rw [Int.tmod_eq_emod_of_nonneg (by omega)]; simp
            have hml : i % bl.length < bl.length := Nat.mod_lt _ (by omega)
            obtain ⟨q, hq⟩ : ∃ q, i % bl.length = q := ⟨_, rfl⟩
            rw [hq] at hmod hml
            obtain ⟨ad2, u, hA2, hB2, hu, hcell2⟩ := HBL.out.at_ hml
            have hk1 : kAt bl i = bl.getD q 0 := by unfold kAt; rw [if_neg hb0, hq]
            have hu2 : u = .int .u8 (kAt bl i : Nat) := by
              rw [hk1]
              have hql : q < bl.length := by omega
              simp [hql] at hu
              rw [← hu]
              simp [List.getD, hql]
            subst hA2 hu2
            have hk256 : kAt bl i < 256 := by
              rw [hk1]
              have hql : q < bl.length := by omega
              have := HBB.out bl[q] (List.getElem_mem hql)
              simpa [List.getD, hql] using this
            have hcell3 : w6.cell? (ad2.add q) = some (.int .u8 (kAt bl i : Nat)) := by
              rw [HB6.out.cell (by rw [block_of_add]; omega)]; exact hcell2
            obtain ⟨kk, hkk⟩ : ∃ kk, kAt bl i = kk := ⟨_, rfl⟩
            rw [hkk] at hcell3 hk256
            have HKK := Lib.hid hkk
            clear hk1 hcell2 hu hkk
            have hn0 : 0 < bl.length := by omega
            go_wp2_with fail
            go_meet
            exact ⟨by rw [HKK.out], rfl⟩
        case rest =>
          obtain ⟨rfl, rfl⟩ := hcut
          have hk256 : kAt bl i < 256 := kAt_lt HBB.out i
          obtain ⟨kk, hkk⟩ : ∃ kk, kAt bl i = kk := ⟨_, rfl⟩
          rw [hkk] at hk256 ⊢
          have HKK := Lib.hid hkk
          have h5 : (kk : Int).tmod 5 = ((kk % 5 : Nat) : Int) := by rw [Int.tmod_eq_emod_of_nonneg (by omega)]; omega
          have hq5 : kk % 5 < 5 := Nat.mod_lt _ (by omega)
          have hx5 : (#[Value.string ⟨#[]⟩, Value.string ⟨#[10]⟩, Value.string ⟨#[35, 32, 112, 117, 116, 32, 97, 32, 98, 10]⟩, Value.string ⟨#[32, 32, 32, 10]⟩, Value.string ⟨#[32, 35, 120, 10, 10]⟩] : Array Value)[kk % 5]? = some (str (moreL kk)) := more_at kk
          obtain ⟨q5, hq5e⟩ : ∃ q, kk % 5 = q := ⟨_, rfl⟩
          rw [hq5e] at h5 hq5 hx5
          clear hkk hq5e
          have hx6 : (w6.alloc (.cells #[Value.string ⟨#[]⟩, Value.string ⟨#[10]⟩, Value.string ⟨#[35, 32, 112, 117, 116, 32, 97, 32, 98, 10]⟩, Value.string ⟨#[32, 32, 32, 10]⟩, Value.string ⟨#[32, 35, 120, 10, 10]⟩] 9)).cell? ⟨w6.heap.size, q5, none⟩ = some (str (moreL kk)) :=
            ((Blk.new w6 9 _).cell q5).trans hx5
          have hb7 := HB6.out.alloc HB6.out.size (.cells #[Value.string ⟨#[]⟩, Value.string ⟨#[10]⟩, Value.string ⟨#[35, 32, 112, 117, 116, 32, 97, 32, 98, 10]⟩, Value.string ⟨#[32, 32, 32, 10]⟩, Value.string ⟨#[32, 35, 120, 10, 10]⟩] 9)
          have hG7 := HG.out.below hb7 HG.out.size
          obtain ⟨mm, hmm⟩ := hG7.maxLen
          have hLsz : (⟨L.toArray⟩ : ByteArray).size = L.length := by show L.toArray.size = _; rw [List.size_toArray]
          have c17 := Tryz.strings_ReplaceAll ⟨L.toArray⟩ ⟨#[32]⟩ ⟨#[32, 32, 32]⟩ mm _ (by rw [hLsz]; omega) hmm (by decide) (by
            have h1 := Lib.countB_le ⟨#[32]⟩ (by decide) L.length ⟨L.toArray⟩ (by rw [hLsz]; omega)
            have h2 : (⟨#[32, 32, 32]⟩ : ByteArray).size = 3 := rfl
            rw [hLsz] at h1 ⊢
            rw [h2]
            omega)
          have hrep : Lib.replaceAll (⟨L.toArray⟩ : ByteArray).data.toList (⟨#[32]⟩ : ByteArray).data.toList (⟨#[32, 32, 32]⟩ : ByteArray).data.toList = three L := replaceAll_three L
          rw [hrep] at c17
          have hT3 := three_length L
          have hsty : styled kk L = if kk / 5 % 2 = 0 then L else [32, 32] ++ three L ++ [32] := rfl
          obtain ⟨T, hT⟩ : ∃ T, three L = T := ⟨_, rfl⟩
          rw [hT] at c17 hT3 hsty
          obtain ⟨S, hS⟩ : ∃ S, styled kk L = S := ⟨_, rfl⟩
          rw [hS] at hsty
          have hSl : S.length ≤ 12003 := by rw [← hS]; exact (styled_ok HGL.out kk).2
          have h5d : (kk : Int).tdiv 5 = ((kk / 5 : Nat) : Int) := by rw [Int.tdiv_eq_ediv_of_nonneg (by omega)]; omega
          have h2m : ((kk / 5 : Nat) : Int).tmod 2 = ((kk / 5 % 2 : Nat) : Int) := by rw [Int.tmod_eq_emod_of_nonneg (by omega)]; omega
          have hx2 : (#[str L, Value.string (⟨#[32, 32]⟩ ++ ⟨T.toArray⟩ ++ ⟨#[32]⟩)] : Array Value)[kk / 5 % 2]? = some (str S) := by
            rw [hsty]
            have h2 : kk / 5 % 2 = 0 ∨ kk / 5 % 2 = 1 := by omega
            rcases h2 with h2 | h2
            · rw [h2]; rfl
            · rw [h2]; rfl
          have h2l : kk / 5 % 2 < 2 := Nat.mod_lt _ (by omega)
          obtain ⟨q2, hq2⟩ : ∃ q, kk / 5 % 2 = q := ⟨_, rfl⟩
          obtain ⟨q0, hq0⟩ : ∃ q, kk / 5 = q := ⟨_, rfl⟩
          rw [hq2] at h2m hx2 h2l
          rw [hq0] at h5d h2m
          have hq0l : q0 ≤ 256 := by omega
          obtain ⟨mf1, mf2, mf3⟩ := more_few kk
          obtain ⟨M, hM⟩ : ∃ M, moreL kk = M := ⟨_, rfl⟩
          rw [hM] at mf2 mf3 hx6 hx5
          have hrn := (rowsN_ok HVS.out.good bl i (by simp [opsV]; omega))
          have hrl := hrn.2.1
          have hgl := hrn.2.2
          have hrN : rowsN bl (linesV vs) (i + 1) = rowsN bl (linesV vs) i ++ (moreR kk ++ [S]) := by
            have e2 : (linesV vs).getD i [] = L := by
              have e3 : (linesV vs).getD i [] = lineL (opV vs[i]) := by simp [linesV, opsV, List.getD, hlt]
              rw [e3, HV.out, HO.out, HLL.out]
            rw [rowsN, rowsI, HKK.out, e2, hS]
          have hglN : glue (rowsN bl (linesV vs) (i + 1)) = glue (rowsN bl (linesV vs) i) ++ (M ++ S ++ [10]) := by
            have e : ∀ s : Bs, glue [s] = s ++ [10] := fun s => by simp [glue]
            rw [hrN, glue_app, glue_app, e, ← hM]
            simp [moreL]
          have hlenN : (rowsN bl (linesV vs) (i + 1)).length = (rowsN bl (linesV vs) i).length + ((moreR kk).length + 1) := by
            rw [hrN, List.length_append, List.length_append]; rfl
          obtain ⟨G, hGG⟩ : ∃ G, glue (rowsN bl (linesV vs) i) = G := ⟨_, rfl⟩
          obtain ⟨R, hRR⟩ : ∃ R, (rowsN bl (linesV vs) i).length = R := ⟨_, rfl⟩
          obtain ⟨mr, hmr⟩ : ∃ mr, (moreR kk).length = mr := ⟨_, rfl⟩
          rw [hGG] at hgl hglN ⊢
          rw [hRR] at hrl hlenN ⊢
          rw [hmr] at mf1 mf3 hlenN
          have hGl : G.length ≤ 200000 := by omega
          have hRl : R ≤ 40 := by omega
          have hTl : T.length ≤ 12000 := by omega
          have HGLN := Lib.hid hglN
          have HLENN := Lib.hid hlenN
          have C17 := Lib.hid c17
          have HB7 := Lib.hid hb7
          have HG7 := Lib.hid hG7
          clear hb7 hG7 hmm hLsz c17 hrep hT hS hsty hq2 hq0 hM hrn hrN hGG hRR hmr hglN hlenN hgl hrl hT3
          go_wp2_with fail
          refine C17.out.mono ?_
          rintro e w7 ⟨rfl, hb8⟩
          have hb67 : Below w6.heap.size w6 w7 := ((Below.refl _ w6).alloc (Nat.le_refl _) _).trans (hb8.mono (by simp))
          have HB67 := Lib.hid hb67
          have hx3 : (w7.alloc (.cells #[str L, Value.string (⟨#[32, 32]⟩ ++ ⟨T.toArray⟩ ++ ⟨#[32]⟩)] 9)).cell? ⟨w7.heap.size, q2, none⟩ = some (str S) := ((Blk.new w7 9 _).cell q2).trans hx2
          clear hb8 hb67
          have c18 := Tryz.strings_Count_one ⟨M.toArray⟩ 10 (w7.alloc (.cells #[str L, Value.string (⟨#[32, 32]⟩ ++ ⟨T.toArray⟩ ++ ⟨#[32]⟩)] 9))
          have hcm : (Lib.countByte (⟨M.toArray⟩ : ByteArray).data.toList 10) = mr := mf3
          rw [hcm] at c18
          have C18 := Lib.hid c18
          clear c18 hcm mf3
          go_wp2_with fail
          refine C18.out.mono ?_
          rintro e w8 ⟨rfl, hw8⟩
          have hb68 : Below w6.heap.size w6 w8 := by rw [hw8]; exact HB67.out.alloc HB67.out.size _
          have hops8 := own_below HOPS6.out hb68
          have hall8 := own_below HALL6.out hb68
          have htk : (opsV vs).take (i + 1) = (opsV vs).take i ++ [OpL.mk d df nm tx m0 m1 m2 m3] := by
            have hlo : i < (opsV vs).length := by simp [opsV]; omega
            rw [List.take_succ_eq_append_getElem hlo]
            have e : (opsV vs)[i] = OpL.mk d df nm tx m0 m1 m2 m3 := by simp [opsV, HV.out, HO.out]
            rw [e]
          have htl : (linesV vs).take (i + 1) = (linesV vs).take i ++ [L] := by
            have hlo : i < (linesV vs).length := by simp [linesV, opsV]; omega
            rw [List.take_succ_eq_append_getElem hlo]
            have e : (linesV vs)[i] = L := by simp [linesV, opsV, HV.out, HO.out, HLL.out]
            rw [e]
          have hops9 : w8.ownsRow w.heap.size 33 8 v9' (i + 1) (opsCells ((opsV vs).take (i + 1))) := by rw [htk, opsCells_snoc]; exact hops8
          have hall9 : w8.ownsRow w.heap.size 9 1 v10' (i + 1) (((linesV vs).take (i + 1)).map str) := by rw [htl, List.map_append, List.map_take]; exact hall8
          have hb8 := HB6.out.trans (hb68.mono HB6.out.size)
          have HOPS9 := Lib.hid hops9
          have HALL9 := Lib.hid hall9
          have HB8 := Lib.hid hb8
          clear hw8 hb68 hops8 hall8 htk htl hops9 hall9 hb8
          go_wp2_with fail
          go_roundg (vs.length + 1 - (i + 1))
          case measure => omega
          case rel =>
            refine ⟨i + 1, by omega, rfl, by go_num, HOPS9.out, HALL9.out, ?_, ?_, H13.out, H15.out, HB8.out⟩
            · rw [HGLN.out]; rfl
            · rw [HLENN.out]; go_num
end Go.Proofs.YtadncponjpdcmaaGreatDoor

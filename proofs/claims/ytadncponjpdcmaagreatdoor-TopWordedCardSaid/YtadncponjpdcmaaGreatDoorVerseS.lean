/-
  A verse's op and its line by hand, at a run: walked.
-/
import Derived.Test.YtadncponjpdcmaaGreatDoorVerseR
import Derived.BigRegion
namespace Go.Proofs.YtadncponjpdcmaaGreatDoor
open Go.RowKit

set_option maxHeartbeats 4000000 in
set_option maxRecDepth 100000 in
theorem op_run_def (k : Nat) (nm tx : Bs) (c0 c1 c2 c3 : Int) (w : World) (hkm : (k : Int).tmod 7 = 3) (hl : tx.length ≤ 1000000) (hG : Glob w)
    (b0 : -32768 ≤ c0 ∧ c0 ≤ 32767) (b1 : -32768 ≤ c1 ∧ c1 ≤ 32767) (b2 : -32768 ≤ c2 ∧ c2 ≤ 32767) (b3 : -32768 ≤ c3 ∧ c3 ≤ 32767) :
    Calls Tryz.prog 5 #[.agg #[.int .u8 k, .bool true, str nm, str tx, .int .i16 c0, .int .i16 c1, .int .i16 c2, .int .i16 c3]] w fun e w' => e = .returned (.tuple #[.agg (opCells ⟨4, false, [], tx, c0, c1, c2, c3⟩), str ([114, 117, 110, 32] ++ Lib.itoa c0 ++ [32] ++ Lib.itoa c1 ++ [32] ++ Lib.itoa c2 ++ [32] ++ Lib.itoa c3 ++ [32] ++ wordL tx)]) ∧ Below w.heap.size w w' := by
  obtain ⟨b00, b01⟩ := b0
  obtain ⟨b10, b11⟩ := b1
  obtain ⟨b20, b21⟩ := b2
  obtain ⟨b30, b31⟩ := b3
  have v0 : IntKind.i64.wrap c0 = c0 := IntWalk.i64_in _ (by omega)
  have v1 : IntKind.i64.wrap c1 = c1 := IntWalk.i64_in _ (by omega)
  have v2 : IntKind.i64.wrap c2 = c2 := IntWalk.i64_in _ (by omega)
  have v3 : IntKind.i64.wrap c3 = c3 := IntWalk.i64_in _ (by omega)
  have ix0 : ∀ w, (Instr.index 26 (.agg #[.int .i16 c0, .int .i16 c1, .int .i16 c2, .int .i16 c3]) (.int .i64 0)).run Tryz.prog w = .ok (.int .i16 c0) w := fun w => by kernel_rfl
  have ix1 : ∀ w, (Instr.index 26 (.agg #[.int .i16 c0, .int .i16 c1, .int .i16 c2, .int .i16 c3]) (.int .i64 1)).run Tryz.prog w = .ok (.int .i16 c1) w := fun w => by kernel_rfl
  have ix2 : ∀ w, (Instr.index 26 (.agg #[.int .i16 c0, .int .i16 c1, .int .i16 c2, .int .i16 c3]) (.int .i64 2)).run Tryz.prog w = .ok (.int .i16 c2) w := fun w => by kernel_rfl
  have ix3 : ∀ w, (Instr.index 26 (.agg #[.int .i16 c0, .int .i16 c1, .int .i16 c2, .int .i16 c3]) (.int .i64 3)).run Tryz.prog w = .ok (.int .i16 c3) w := fun w => by kernel_rfl
  have HG := Lib.hid hG
  clear hG
  go_enter Tryz.func5, Tryz.ntmps5
  go_wp2_with fail
  go_region
  go_wp2_with fail
  obtain ⟨hb1, hb2, hb3, hbw, hsz⟩ := three_blocks w #[.int .u8 k, .bool true, str nm, str tx, .int .i16 c0, .int .i16 c1, .int .i16 c2, .int .i16 c3] #[.int .u8 0, .bool false, .string ⟨#[]⟩, .string ⟨#[]⟩, .int .i64 0, .int .i64 0, .int .i64 0, .int .i64 0] #[.int .u8 4, .bool false, .string ⟨#[]⟩, .string ⟨tx.toArray⟩, .int .i64 c0, .int .i64 c1, .int .i64 c2, .int .i64 c3] 28 33 33
  generalize hW : (((w.alloc (.cells #[.int .u8 k, .bool true, str nm, str tx, .int .i16 c0, .int .i16 c1, .int .i16 c2, .int .i16 c3] 28)).alloc (.cells #[.int .u8 0, .bool false, .string ⟨#[]⟩, .string ⟨#[]⟩, .int .i64 0, .int .i64 0, .int .i64 0, .int .i64 0] 33)).alloc (.cells #[.int .u8 4, .bool false, .string ⟨#[]⟩, .string ⟨tx.toArray⟩, .int .i64 c0, .int .i64 c1, .int .i64 c2, .int .i64 c3] 33)).drew = W at hb1 hb2 hb3 hbw hsz ⊢
  have HB1 := Lib.hid hb1
  have HB2 := Lib.hid hb2
  have HB3 := Lib.hid hb3
  have HBW := Lib.hid hbw
  have hsl : w.heap.size + 2 < W.heap.size := by omega
  clear hb1 hb2 hb3 hbw hsz hW
  go_loopw [6, 8, 76]
    (fun u6 u8 u76 wx => ∃ j : Nat, j ≤ 4 ∧ u76 = .int .i64 j ∧ u6 = .string ⟨(runAcc [c0, c1, c2, c3] j).toArray⟩ ∧ Below W.heap.size W wx)
    (fun _ _ u76 _ => (4 - intOf u76).toNat)
  case atStart => exact ⟨0, by omega, rfl, rfl, Below.refl _ _⟩
  case round =>
    obtain ⟨j, hj, rfl, rfl, hbx⟩ := hrel
    have HBX := Lib.hid hbx
    have hGx := HG.out.below (HBW.out.trans (hbx.mono HBW.out.size)) HG.out.size
    have HGX := Lib.hid hGx
    clear hGx
    obtain rfl | hj : j = 4 ∨ j < 4 := by omega
    · have hb1 := HB1.out.below hbx HB1.out.lt
      have hb2 := HB2.out.below hbx HB2.out.lt
      have hb3 := HB3.out.below hbx HB3.out.lt
      have hbw := HBW.out.trans (hbx.mono HBW.out.size)
      have hlen : (runAcc [c0, c1, c2, c3] 4).length ≤ 404 := runAcc_length [c0, c1, c2, c3] (by simp; omega) 4
      have hRR : [114, 117, 110, 32] ++ Lib.itoa c0 ++ [32] ++ Lib.itoa c1 ++ [32] ++ Lib.itoa c2 ++ [32] ++ Lib.itoa c3 ++ [32] ++ wordL tx = runAcc [c0, c1, c2, c3] 4 ++ wordL tx := by simp [runAcc]
      obtain ⟨R, hR⟩ : ∃ R, runAcc [c0, c1, c2, c3] 4 = R := ⟨_, rfl⟩
      rw [hR] at hlen hRR ⊢
      have x3 : wr.cell? ⟨w.heap.size, 3, none⟩ = some (str tx) := hb1.cell 3
      have y0 : wr.cell? ⟨w.heap.size + 1 + 1, 0, none⟩ = some (.int .u8 4) := hb3.cell 0
      have y1 : wr.cell? ⟨w.heap.size + 1 + 1, 1, none⟩ = some (.bool false) := hb3.cell 1
      have y2 : wr.cell? ⟨w.heap.size + 1 + 1, 2, none⟩ = some (.string ⟨#[]⟩) := hb3.cell 2
      have y3 : wr.cell? ⟨w.heap.size + 1 + 1, 3, none⟩ = some (.string ⟨tx.toArray⟩) := hb3.cell 3
      have y4 : wr.cell? ⟨w.heap.size + 1 + 1, 4, none⟩ = some (.int .i64 c0) := hb3.cell 4
      have y5 : wr.cell? ⟨w.heap.size + 1 + 1, 5, none⟩ = some (.int .i64 c1) := hb3.cell 5
      have y6 : wr.cell? ⟨w.heap.size + 1 + 1, 6, none⟩ = some (.int .i64 c2) := hb3.cell 6
      have y7 : wr.cell? ⟨w.heap.size + 1 + 1, 7, none⟩ = some (.int .i64 c3) := hb3.cell 7
      have hc := worded_keep tx w.heap.size (.int .u8 4) (.bool false) (.string ⟨#[]⟩) (.string ⟨tx.toArray⟩) (.int .i64 c0) (.int .i64 c1) (.int .i64 c2) (.int .i64 c3) w wr.drew (by omega) rfl ⟨hb2, hb3, hbw.drew, HG.out.below hbw.drew HG.out.size⟩
      have hwl : (wordL tx).length ≤ 4000000 := by have := word_length tx; omega
      obtain ⟨W1, hW1⟩ : ∃ W1, wordL tx = W1 := ⟨_, rfl⟩
      rw [hW1] at hwl hc hRR
      have HW1 := Lib.hid hW1
      have HRR := Lib.hid hRR
      have HC := Lib.hid hc
      clear hb1 hb2 hb3 hbw hc hW1 hRR hR hbx
      go_wp2_with fail
      go_region_with (go_at_call 8; refine HC.out.mono ?_; rintro e w1 ⟨rfl, ⟨z0, z1, z2, z3, z4, z5, z6, z7⟩, ⟨s0, s1, s2, s3, s4, s5, s6, s7⟩, ⟨f0, f1, f2, f3, f4, f5, f6, f7⟩, HB⟩)
      all_goals
        go_wp2_with fail
        have hf := over8 (.int .u8 4) (.bool false) (.string ⟨#[]⟩) (.string ⟨tx.toArray⟩) (.int .i64 c0) (.int .i64 c1) (.int .i64 c2) (.int .i64 c3) HB.out.2 rfl
        have hbf := below8 (D := w.heap.size + 1) (.int .u8 4) (.bool false) (.string ⟨#[]⟩) (.string ⟨tx.toArray⟩) (.int .i64 c0) (.int .i64 c1) (.int .i64 c2) (.int .i64 c3) HB.out.1 (by omega)
        generalize ((((((((w1.setCell ⟨w.heap.size + 1, 0, none⟩ (.int .u8 4)).setCell ⟨w.heap.size + 1, 1, none⟩ (.bool false)).setCell ⟨w.heap.size + 1, 2, none⟩ (.string ⟨#[]⟩)).setCell ⟨w.heap.size + 1, 3, none⟩ (.string ⟨tx.toArray⟩)).setCell ⟨w.heap.size + 1, 4, none⟩ (.int .i64 c0)).setCell ⟨w.heap.size + 1, 5, none⟩ (.int .i64 c1)).setCell ⟨w.heap.size + 1, 6, none⟩ (.int .i64 c2)).setCell ⟨w.heap.size + 1, 7, none⟩ (.int .i64 c3)) = wf at hf hbf ⊢
        refine bodyPost_ret_by (v := .tuple #[.agg (opCells ⟨4, false, [], tx, c0, c1, c2, c3⟩), str (R ++ W1)]) ?_ rfl ⟨by rw [← HRR.out, HW1.out]; rfl, hbf⟩
        rw [results_cell_tmp Tryz.results5]
        have q0 : wf.cell? ⟨w.heap.size + 1, 0, none⟩ = some (.int .u8 4) := hf.cell 0
        have q1 : wf.cell? ⟨w.heap.size + 1, 1, none⟩ = some (.bool false) := hf.cell 1
        have q2 : wf.cell? ⟨w.heap.size + 1, 2, none⟩ = some (.string ⟨#[]⟩) := hf.cell 2
        have q3 : wf.cell? ⟨w.heap.size + 1, 3, none⟩ = some (.string ⟨tx.toArray⟩) := hf.cell 3
        have q4 : wf.cell? ⟨w.heap.size + 1, 4, none⟩ = some (.int .i64 c0) := hf.cell 4
        have q5 : wf.cell? ⟨w.heap.size + 1, 5, none⟩ = some (.int .i64 c1) := hf.cell 5
        have q6 : wf.cell? ⟨w.heap.size + 1, 6, none⟩ = some (.int .i64 c2) := hf.cell 6
        have q7 : wf.cell? ⟨w.heap.size + 1, 7, none⟩ = some (.int .i64 c3) := hf.cell 7
        simp [go_sem, opCells, q0, q1, q2, q3, q4, q5, q6, q7]
        try (apply ByteArray.ext; simp)
    · clear hbx
      obtain ⟨c, hc⟩ : ∃ c, [c0, c1, c2, c3][j]? = some c := ⟨_, List.getElem?_eq_getElem hj⟩
      have hcb : -32768 ≤ c ∧ c ≤ 32767 := by
        match j, hj with
        | 0, _ => simp at hc; omega
        | 1, _ => simp at hc; omega
        | 2, _ => simp at hc; omega
        | 3, _ => simp at hc; omega
      have hacc : runAcc [c0, c1, c2, c3] (j + 1) = runAcc [c0, c1, c2, c3] j ++ (Lib.itoa c ++ [32]) := runAcc_step _ _ _ hc
      have hlen : (runAcc [c0, c1, c2, c3] j).length ≤ 4 + j * 100 := runAcc_length [c0, c1, c2, c3] (by simp; omega) j
      have c9 : ∀ wx, Glob wx → Calls Tryz.prog 9 #[.int .i64 c] wx fun e w' => e = .returned (str (Lib.itoa c)) ∧ Below wx.heap.size wx w' := fun wx h => Itoa_any c (by omega) (by omega) wx h
      have hilen : (Lib.itoa c).length ≤ 100 := by have := itoa_length c (by omega) (by omega); omega
      obtain ⟨I, hI⟩ : ∃ I, Lib.itoa c = I := ⟨_, rfl⟩
      obtain ⟨R, hR⟩ : ∃ R, runAcc [c0, c1, c2, c3] j = R := ⟨_, rfl⟩
      rw [hI] at c9 hacc hilen
      rw [hR] at hlen hacc ⊢
      have HACC := Lib.hid hacc
      have C9 := Lib.hid c9
      clear hI hR hacc c9
      obtain rfl | rfl | rfl | rfl : j = 0 ∨ j = 1 ∨ j = 2 ∨ j = 3 := by omega
      all_goals
        simp at hc
        subst hc
        go_wp2_with fail
        refine (C9.out _ HGX.out).mono ?_
        rintro e w1 ⟨rfl, hb1⟩
        have HB1 := Lib.hid hb1
        clear hb1
        go_wp2_with fail
        go_roundw
        case rel =>
          first
            | exact ⟨1, by omega, rfl, (str_app3 R I).trans (congrArg (fun l : Bs => Value.string ⟨l.toArray⟩) HACC.out.symm), HBX.out.trans (HB1.out.mono HBX.out.size)⟩
            | exact ⟨2, by omega, rfl, (str_app3 R I).trans (congrArg (fun l : Bs => Value.string ⟨l.toArray⟩) HACC.out.symm), HBX.out.trans (HB1.out.mono HBX.out.size)⟩
            | exact ⟨3, by omega, rfl, (str_app3 R I).trans (congrArg (fun l : Bs => Value.string ⟨l.toArray⟩) HACC.out.symm), HBX.out.trans (HB1.out.mono HBX.out.size)⟩
            | exact ⟨4, by omega, rfl, (str_app3 R I).trans (congrArg (fun l : Bs => Value.string ⟨l.toArray⟩) HACC.out.symm), HBX.out.trans (HB1.out.mono HBX.out.size)⟩
        case measure => simp [intOf]
end Go.Proofs.YtadncponjpdcmaaGreatDoor

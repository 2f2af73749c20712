/-
  A verse's op and its line by hand, at an image: walked.
-/
import Derived.Test.YtadncponjpdcmaaGreatDoorVerse
namespace Go.Proofs.YtadncponjpdcmaaGreatDoor
open Go.RowKit

set_option maxHeartbeats 4000000 in
set_option maxRecDepth 100000 in
theorem op_image_unit (k : Nat) (nm tx : Bs) (c0 c1 c2 c3 : Int) (w : World) (hkm : (k : Int).tmod 7 = 6) (hl : tx.length ≤ 1000000) (hG : Glob w) :
    Calls Tryz.prog 5 #[.agg #[.int .u8 k, .bool false, str nm, str tx, .int .i16 c0, .int .i16 c1, .int .i16 c2, .int .i16 c3]] w fun e w' => e = .returned (.tuple #[.agg (opCells ⟨7, false, [], tx, 0, 0, 0, 0⟩), str ([105, 109, 97, 103, 101, 32] ++ wordL tx)]) ∧ Below w.heap.size w w' := by
  have HG := Lib.hid hG
  clear hG
  go_enter Tryz.func5, Tryz.ntmps5
  go_wp2_with fail
  obtain ⟨hb1, hb2, hb3, hbw, hsz⟩ := three_blocks0 w #[.int .u8 k, .bool false, str nm, str tx, .int .i16 c0, .int .i16 c1, .int .i16 c2, .int .i16 c3] #[.int .u8 0, .bool false, .string ⟨#[]⟩, .string ⟨#[]⟩, .int .i64 0, .int .i64 0, .int .i64 0, .int .i64 0] #[.int .u8 7, .bool false, .string ⟨#[]⟩, .string ⟨tx.toArray⟩, .int .i64 0, .int .i64 0, .int .i64 0, .int .i64 0] 28 33 33
  generalize hW : (((w.alloc (.cells #[.int .u8 k, .bool false, str nm, str tx, .int .i16 c0, .int .i16 c1, .int .i16 c2, .int .i16 c3] 28)).alloc (.cells #[.int .u8 0, .bool false, .string ⟨#[]⟩, .string ⟨#[]⟩, .int .i64 0, .int .i64 0, .int .i64 0, .int .i64 0] 33)).alloc (.cells #[.int .u8 7, .bool false, .string ⟨#[]⟩, .string ⟨tx.toArray⟩, .int .i64 0, .int .i64 0, .int .i64 0, .int .i64 0] 33)) = W at hb1 hb2 hb3 hbw hsz ⊢
  have x3 : W.cell? ⟨w.heap.size, 3, none⟩ = some (str tx) := hb1.cell 3
  have y0 : W.cell? ⟨w.heap.size + 1 + 1, 0, none⟩ = some (.int .u8 7) := hb3.cell 0
  have y1 : W.cell? ⟨w.heap.size + 1 + 1, 1, none⟩ = some (.bool false) := hb3.cell 1
  have y2 : W.cell? ⟨w.heap.size + 1 + 1, 2, none⟩ = some (.string ⟨#[]⟩) := hb3.cell 2
  have y3 : W.cell? ⟨w.heap.size + 1 + 1, 3, none⟩ = some (.string ⟨tx.toArray⟩) := hb3.cell 3
  have y4 : W.cell? ⟨w.heap.size + 1 + 1, 4, none⟩ = some (.int .i64 0) := hb3.cell 4
  have y5 : W.cell? ⟨w.heap.size + 1 + 1, 5, none⟩ = some (.int .i64 0) := hb3.cell 5
  have y6 : W.cell? ⟨w.heap.size + 1 + 1, 6, none⟩ = some (.int .i64 0) := hb3.cell 6
  have y7 : W.cell? ⟨w.heap.size + 1 + 1, 7, none⟩ = some (.int .i64 0) := hb3.cell 7
  have hc := worded_keep tx w.heap.size (.int .u8 7) (.bool false) (.string ⟨#[]⟩) (.string ⟨tx.toArray⟩) (.int .i64 0) (.int .i64 0) (.int .i64 0) (.int .i64 0) w W.drew (by omega) rfl ⟨hb2, hb3, hbw.drew, HG.out.below hbw.drew HG.out.size⟩
  have hwl : (wordL tx).length ≤ 4000000 := by have := word_length tx; omega
  generalize hW1 : wordL tx = W1 at hwl hc ⊢
  have HW1 := Lib.hid hW1
  have HC := Lib.hid hc
  clear hb1 hb2 hb3 hbw hsz hW hc hW1
  go_region_with (go_at_call 8; refine HC.out.mono ?_; rintro e w1 ⟨rfl, ⟨z0, z1, z2, z3, z4, z5, z6, z7⟩, ⟨s0, s1, s2, s3, s4, s5, s6, s7⟩, ⟨f0, f1, f2, f3, f4, f5, f6, f7⟩, HB⟩)
  all_goals
    go_wp2_with fail
    have hf := over8 (.int .u8 7) (.bool false) (.string ⟨#[]⟩) (.string ⟨tx.toArray⟩) (.int .i64 0) (.int .i64 0) (.int .i64 0) (.int .i64 0) HB.out.2 rfl
    have hbf := below8 (D := w.heap.size + 1) (.int .u8 7) (.bool false) (.string ⟨#[]⟩) (.string ⟨tx.toArray⟩) (.int .i64 0) (.int .i64 0) (.int .i64 0) (.int .i64 0) HB.out.1 (by omega)
    generalize ((((((((w1.setCell ⟨w.heap.size + 1, 0, none⟩ (.int .u8 7)).setCell ⟨w.heap.size + 1, 1, none⟩ (.bool false)).setCell ⟨w.heap.size + 1, 2, none⟩ (.string ⟨#[]⟩)).setCell ⟨w.heap.size + 1, 3, none⟩ (.string ⟨tx.toArray⟩)).setCell ⟨w.heap.size + 1, 4, none⟩ (.int .i64 0)).setCell ⟨w.heap.size + 1, 5, none⟩ (.int .i64 0)).setCell ⟨w.heap.size + 1, 6, none⟩ (.int .i64 0)).setCell ⟨w.heap.size + 1, 7, none⟩ (.int .i64 0)) = wf at hf hbf ⊢
    refine bodyPost_ret_by (v := .tuple #[.agg (opCells ⟨7, false, [], tx, 0, 0, 0, 0⟩), str ([105, 109, 97, 103, 101, 32] ++ W1)]) ?_ rfl ⟨by rw [HW1.out]; rfl, hbf⟩
    rw [results_cell_tmp Tryz.results5]
    have q0 : wf.cell? ⟨w.heap.size + 1, 0, none⟩ = some (.int .u8 7) := hf.cell 0
    have q1 : wf.cell? ⟨w.heap.size + 1, 1, none⟩ = some (.bool false) := hf.cell 1
    have q2 : wf.cell? ⟨w.heap.size + 1, 2, none⟩ = some (.string ⟨#[]⟩) := hf.cell 2
    have q3 : wf.cell? ⟨w.heap.size + 1, 3, none⟩ = some (.string ⟨tx.toArray⟩) := hf.cell 3
    have q4 : wf.cell? ⟨w.heap.size + 1, 4, none⟩ = some (.int .i64 0) := hf.cell 4
    have q5 : wf.cell? ⟨w.heap.size + 1, 5, none⟩ = some (.int .i64 0) := hf.cell 5
    have q6 : wf.cell? ⟨w.heap.size + 1, 6, none⟩ = some (.int .i64 0) := hf.cell 6
    have q7 : wf.cell? ⟨w.heap.size + 1, 7, none⟩ = some (.int .i64 0) := hf.cell 7
    simp [go_sem, opCells, q0, q1, q2, q3, q4, q5, q6, q7, defW]
    try (apply ByteArray.ext; simp)

set_option maxHeartbeats 4000000 in
set_option maxRecDepth 100000 in
theorem op_image_def (k : Nat) (nm tx : Bs) (c0 c1 c2 c3 : Int) (w : World) (hkm : (k : Int).tmod 7 = 6) (hl : tx.length ≤ 1000000) (hG : Glob w) :
    Calls Tryz.prog 5 #[.agg #[.int .u8 k, .bool true, str nm, str tx, .int .i16 c0, .int .i16 c1, .int .i16 c2, .int .i16 c3]] w fun e w' => e = .returned (.tuple #[.agg (opCells ⟨7, false, [], tx, 0, 0, 0, 0⟩), str ([105, 109, 97, 103, 101, 32] ++ wordL tx)]) ∧ Below w.heap.size w w' := by
  have HG := Lib.hid hG
  clear hG
  go_enter Tryz.func5, Tryz.ntmps5
  go_wp2_with fail
  obtain ⟨hb1, hb2, hb3, hbw, hsz⟩ := three_blocks0 w #[.int .u8 k, .bool true, str nm, str tx, .int .i16 c0, .int .i16 c1, .int .i16 c2, .int .i16 c3] #[.int .u8 0, .bool false, .string ⟨#[]⟩, .string ⟨#[]⟩, .int .i64 0, .int .i64 0, .int .i64 0, .int .i64 0] #[.int .u8 7, .bool false, .string ⟨#[]⟩, .string ⟨tx.toArray⟩, .int .i64 0, .int .i64 0, .int .i64 0, .int .i64 0] 28 33 33
  generalize hW : (((w.alloc (.cells #[.int .u8 k, .bool true, str nm, str tx, .int .i16 c0, .int .i16 c1, .int .i16 c2, .int .i16 c3] 28)).alloc (.cells #[.int .u8 0, .bool false, .string ⟨#[]⟩, .string ⟨#[]⟩, .int .i64 0, .int .i64 0, .int .i64 0, .int .i64 0] 33)).alloc (.cells #[.int .u8 7, .bool false, .string ⟨#[]⟩, .string ⟨tx.toArray⟩, .int .i64 0, .int .i64 0, .int .i64 0, .int .i64 0] 33)) = W at hb1 hb2 hb3 hbw hsz ⊢
  have x3 : W.cell? ⟨w.heap.size, 3, none⟩ = some (str tx) := hb1.cell 3
  have y0 : W.cell? ⟨w.heap.size + 1 + 1, 0, none⟩ = some (.int .u8 7) := hb3.cell 0
  have y1 : W.cell? ⟨w.heap.size + 1 + 1, 1, none⟩ = some (.bool false) := hb3.cell 1
  have y2 : W.cell? ⟨w.heap.size + 1 + 1, 2, none⟩ = some (.string ⟨#[]⟩) := hb3.cell 2
  have y3 : W.cell? ⟨w.heap.size + 1 + 1, 3, none⟩ = some (.string ⟨tx.toArray⟩) := hb3.cell 3
  have y4 : W.cell? ⟨w.heap.size + 1 + 1, 4, none⟩ = some (.int .i64 0) := hb3.cell 4
  have y5 : W.cell? ⟨w.heap.size + 1 + 1, 5, none⟩ = some (.int .i64 0) := hb3.cell 5
  have y6 : W.cell? ⟨w.heap.size + 1 + 1, 6, none⟩ = some (.int .i64 0) := hb3.cell 6
  have y7 : W.cell? ⟨w.heap.size + 1 + 1, 7, none⟩ = some (.int .i64 0) := hb3.cell 7
  have hc := worded_keep tx w.heap.size (.int .u8 7) (.bool false) (.string ⟨#[]⟩) (.string ⟨tx.toArray⟩) (.int .i64 0) (.int .i64 0) (.int .i64 0) (.int .i64 0) w W.drew (by omega) rfl ⟨hb2, hb3, hbw.drew, HG.out.below hbw.drew HG.out.size⟩
  have hwl : (wordL tx).length ≤ 4000000 := by have := word_length tx; omega
  generalize hW1 : wordL tx = W1 at hwl hc ⊢
  have HW1 := Lib.hid hW1
  have HC := Lib.hid hc
  clear hb1 hb2 hb3 hbw hsz hW hc hW1
  go_region_with (go_at_call 8; refine HC.out.mono ?_; rintro e w1 ⟨rfl, ⟨z0, z1, z2, z3, z4, z5, z6, z7⟩, ⟨s0, s1, s2, s3, s4, s5, s6, s7⟩, ⟨f0, f1, f2, f3, f4, f5, f6, f7⟩, HB⟩)
  all_goals
    go_wp2_with fail
    have hf := over8 (.int .u8 7) (.bool false) (.string ⟨#[]⟩) (.string ⟨tx.toArray⟩) (.int .i64 0) (.int .i64 0) (.int .i64 0) (.int .i64 0) HB.out.2 rfl
    have hbf := below8 (D := w.heap.size + 1) (.int .u8 7) (.bool false) (.string ⟨#[]⟩) (.string ⟨tx.toArray⟩) (.int .i64 0) (.int .i64 0) (.int .i64 0) (.int .i64 0) HB.out.1 (by omega)
    generalize ((((((((w1.setCell ⟨w.heap.size + 1, 0, none⟩ (.int .u8 7)).setCell ⟨w.heap.size + 1, 1, none⟩ (.bool false)).setCell ⟨w.heap.size + 1, 2, none⟩ (.string ⟨#[]⟩)).setCell ⟨w.heap.size + 1, 3, none⟩ (.string ⟨tx.toArray⟩)).setCell ⟨w.heap.size + 1, 4, none⟩ (.int .i64 0)).setCell ⟨w.heap.size + 1, 5, none⟩ (.int .i64 0)).setCell ⟨w.heap.size + 1, 6, none⟩ (.int .i64 0)).setCell ⟨w.heap.size + 1, 7, none⟩ (.int .i64 0)) = wf at hf hbf ⊢
    refine bodyPost_ret_by (v := .tuple #[.agg (opCells ⟨7, false, [], tx, 0, 0, 0, 0⟩), str ([105, 109, 97, 103, 101, 32] ++ W1)]) ?_ rfl ⟨by rw [HW1.out]; rfl, hbf⟩
    rw [results_cell_tmp Tryz.results5]
    have q0 : wf.cell? ⟨w.heap.size + 1, 0, none⟩ = some (.int .u8 7) := hf.cell 0
    have q1 : wf.cell? ⟨w.heap.size + 1, 1, none⟩ = some (.bool false) := hf.cell 1
    have q2 : wf.cell? ⟨w.heap.size + 1, 2, none⟩ = some (.string ⟨#[]⟩) := hf.cell 2
    have q3 : wf.cell? ⟨w.heap.size + 1, 3, none⟩ = some (.string ⟨tx.toArray⟩) := hf.cell 3
    have q4 : wf.cell? ⟨w.heap.size + 1, 4, none⟩ = some (.int .i64 0) := hf.cell 4
    have q5 : wf.cell? ⟨w.heap.size + 1, 5, none⟩ = some (.int .i64 0) := hf.cell 5
    have q6 : wf.cell? ⟨w.heap.size + 1, 6, none⟩ = some (.int .i64 0) := hf.cell 6
    have q7 : wf.cell? ⟨w.heap.size + 1, 7, none⟩ = some (.int .i64 0) := hf.cell 7
    simp [go_sem, opCells, q0, q1, q2, q3, q4, q5, q6, q7, defW]
    try (apply ByteArray.ext; simp)

end Go.Proofs.YtadncponjpdcmaaGreatDoor

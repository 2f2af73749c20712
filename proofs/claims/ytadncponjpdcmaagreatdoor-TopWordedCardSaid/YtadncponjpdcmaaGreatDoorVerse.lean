/-
  A verse's op and its line by hand: walked.
-/
import Derived.Test.YtadncponjpdcmaaGreatDoorClone
import Derived.Deep.RegionWith
namespace Go.Proofs.YtadncponjpdcmaaGreatDoor
open Go.RowKit

/-- What worded leaves, where a struct and the result's cell stand. -/
def WKeep (W1 : Bs) (T : Nat) (a0 a1 a2 a3 a4 a5 a6 a7 : Value) (w : World) (e : Ending) (w' : World) : Prop :=
  e = .returned (str W1) ∧
  (w'.cell? ⟨T + 1 + 1, 0, none⟩ = some a0 ∧ w'.cell? ⟨T + 1 + 1, 1, none⟩ = some a1 ∧ w'.cell? ⟨T + 1 + 1, 2, none⟩ = some a2 ∧ w'.cell? ⟨T + 1 + 1, 3, none⟩ = some a3 ∧
   w'.cell? ⟨T + 1 + 1, 4, none⟩ = some a4 ∧ w'.cell? ⟨T + 1 + 1, 5, none⟩ = some a5 ∧ w'.cell? ⟨T + 1 + 1, 6, none⟩ = some a6 ∧ w'.cell? ⟨T + 1 + 1, 7, none⟩ = some a7) ∧
  (w'.cell? ⟨T + 1, 0, none⟩ = some (.int .u8 0) ∧ w'.cell? ⟨T + 1, 1, none⟩ = some (.bool false) ∧ w'.cell? ⟨T + 1, 2, none⟩ = some (.string ⟨#[]⟩) ∧ w'.cell? ⟨T + 1, 3, none⟩ = some (.string ⟨#[]⟩) ∧
   w'.cell? ⟨T + 1, 4, none⟩ = some (.int .i64 0) ∧ w'.cell? ⟨T + 1, 5, none⟩ = some (.int .i64 0) ∧ w'.cell? ⟨T + 1, 6, none⟩ = some (.int .i64 0) ∧ w'.cell? ⟨T + 1, 7, none⟩ = some (.int .i64 0)) ∧
  (w'.frozen? ⟨T + 1, 0, none⟩ = false ∧ w'.frozen? ⟨T + 1, 1, none⟩ = false ∧ w'.frozen? ⟨T + 1, 2, none⟩ = false ∧ w'.frozen? ⟨T + 1, 3, none⟩ = false ∧
   w'.frozen? ⟨T + 1, 4, none⟩ = false ∧ w'.frozen? ⟨T + 1, 5, none⟩ = false ∧ w'.frozen? ⟨T + 1, 6, none⟩ = false ∧ w'.frozen? ⟨T + 1, 7, none⟩ = false) ∧
  Hid (Below T w w' ∧ Blk w' (T + 1) 33 #[.int .u8 0, .bool false, .string ⟨#[]⟩, .string ⟨#[]⟩, .int .i64 0, .int .i64 0, .int .i64 0, .int .i64 0])

theorem worded_keep (l : Bs) (T : Nat) (a0 a1 a2 a3 a4 a5 a6 a7 : Value) (w W : World) (hl : l.length ≤ 1000000000) (hT : T = w.heap.size)
    (h : Blk W (T + 1) 33 #[.int .u8 0, .bool false, .string ⟨#[]⟩, .string ⟨#[]⟩, .int .i64 0, .int .i64 0, .int .i64 0, .int .i64 0] ∧
      Blk W (T + 1 + 1) 33 #[a0, a1, a2, a3, a4, a5, a6, a7] ∧ Below T w W ∧ Glob W) :
    Calls Tryz.prog 8 #[.string ⟨l.toArray⟩] W (WKeep (wordL l) T a0 a1 a2 a3 a4 a5 a6 a7 w) := by
  obtain ⟨h1, h2, h3, h4⟩ := h
  refine (worded_any ⟨l.toArray⟩ W (by simpa [ByteArray.size] using hl) h4).mono ?_
  rintro e w' ⟨rfl, hb⟩
  have k1 := h1.below hb h1.lt
  have k2 := h2.below hb h2.lt
  exact ⟨rfl, ⟨k2.cell 0, k2.cell 1, k2.cell 2, k2.cell 3, k2.cell 4, k2.cell 5, k2.cell 6, k2.cell 7⟩,
    ⟨k1.cell 0, k1.cell 1, k1.cell 2, k1.cell 3, k1.cell 4, k1.cell 5, k1.cell 6, k1.cell 7⟩,
    ⟨k1.frozen 0, k1.frozen 1, k1.frozen 2, k1.frozen 3, k1.frozen 4, k1.frozen 5, k1.frozen 6, k1.frozen 7⟩, Lib.hid ⟨h3.trans (hb.mono (by have := h1.lt; omega)), k1⟩⟩

theorem three_blocks0 (w : World) (o1 o2 o3 : Array Value) (t1 t2 t3 : TypeId) :
    Blk (((w.alloc (.cells o1 t1)).alloc (.cells o2 t2)).alloc (.cells o3 t3)) w.heap.size t1 o1 ∧
    Blk (((w.alloc (.cells o1 t1)).alloc (.cells o2 t2)).alloc (.cells o3 t3)) (w.heap.size + 1) t2 o2 ∧
    Blk (((w.alloc (.cells o1 t1)).alloc (.cells o2 t2)).alloc (.cells o3 t3)) (w.heap.size + 1 + 1) t3 o3 ∧
    Below w.heap.size w (((w.alloc (.cells o1 t1)).alloc (.cells o2 t2)).alloc (.cells o3 t3)) ∧
    (((w.alloc (.cells o1 t1)).alloc (.cells o2 t2)).alloc (.cells o3 t3)).heap.size = w.heap.size + 3 := by
  have h2 := Blk.new (w.alloc (.cells o1 t1)) t2 o2
  have h3 := Blk.new ((w.alloc (.cells o1 t1)).alloc (.cells o2 t2)) t3 o3
  simp only [World.size_alloc] at h2 h3
  exact ⟨((Blk.new w t1 o1).alloc _).alloc _, h2.alloc _, h3, ((((Below.refl _ w).alloc (Nat.le_refl _) _).alloc (by simp) _).alloc (by simp; omega) _), by simp⟩

set_option maxHeartbeats 4000000 in
set_option maxRecDepth 100000 in
theorem op_put_unit (k : Nat) (nm tx : Bs) (c0 c1 c2 c3 : Int) (w : World) (hkm : (k : Int).tmod 7 = 0) (hl : tx.length ≤ 1000000) (hG : Glob w) :
    Calls Tryz.prog 5 #[.agg #[.int .u8 k, .bool false, str nm, str tx, .int .i16 c0, .int .i16 c1, .int .i16 c2, .int .i16 c3]] w fun e w' => e = .returned (.tuple #[.agg (opCells ⟨1, false, [], tx, 0, 0, 0, 0⟩), str ([112, 117, 116, 32] ++ defW false ++ [32] ++ wordL tx)]) ∧ Below w.heap.size w w' := by
  have HG := Lib.hid hG
  clear hG
  go_enter Tryz.func5, Tryz.ntmps5
  go_wp2_with fail
  go_region
  go_wp2_with fail
  obtain ⟨hb1, hb2, hb3, hbw, hsz⟩ := three_blocks w #[.int .u8 k, .bool false, str nm, str tx, .int .i16 c0, .int .i16 c1, .int .i16 c2, .int .i16 c3] #[.int .u8 0, .bool false, .string ⟨#[]⟩, .string ⟨#[]⟩, .int .i64 0, .int .i64 0, .int .i64 0, .int .i64 0] #[.int .u8 1, .bool false, .string ⟨#[]⟩, .string ⟨tx.toArray⟩, .int .i64 0, .int .i64 0, .int .i64 0, .int .i64 0] 28 33 33
  generalize hW : (((w.alloc (.cells #[.int .u8 k, .bool false, str nm, str tx, .int .i16 c0, .int .i16 c1, .int .i16 c2, .int .i16 c3] 28)).alloc (.cells #[.int .u8 0, .bool false, .string ⟨#[]⟩, .string ⟨#[]⟩, .int .i64 0, .int .i64 0, .int .i64 0, .int .i64 0] 33)).alloc (.cells #[.int .u8 1, .bool false, .string ⟨#[]⟩, .string ⟨tx.toArray⟩, .int .i64 0, .int .i64 0, .int .i64 0, .int .i64 0] 33)).drew = W at hb1 hb2 hb3 hbw hsz ⊢
  have x3 : W.cell? ⟨w.heap.size, 3, none⟩ = some (str tx) := hb1.cell 3
  have y0 : W.cell? ⟨w.heap.size + 1 + 1, 0, none⟩ = some (.int .u8 1) := hb3.cell 0
  have y1 : W.cell? ⟨w.heap.size + 1 + 1, 1, none⟩ = some (.bool false) := hb3.cell 1
  have y2 : W.cell? ⟨w.heap.size + 1 + 1, 2, none⟩ = some (.string ⟨#[]⟩) := hb3.cell 2
  have y3 : W.cell? ⟨w.heap.size + 1 + 1, 3, none⟩ = some (.string ⟨tx.toArray⟩) := hb3.cell 3
  have y4 : W.cell? ⟨w.heap.size + 1 + 1, 4, none⟩ = some (.int .i64 0) := hb3.cell 4
  have y5 : W.cell? ⟨w.heap.size + 1 + 1, 5, none⟩ = some (.int .i64 0) := hb3.cell 5
  have y6 : W.cell? ⟨w.heap.size + 1 + 1, 6, none⟩ = some (.int .i64 0) := hb3.cell 6
  have y7 : W.cell? ⟨w.heap.size + 1 + 1, 7, none⟩ = some (.int .i64 0) := hb3.cell 7
  have hc := worded_keep tx w.heap.size (.int .u8 1) (.bool false) (.string ⟨#[]⟩) (.string ⟨tx.toArray⟩) (.int .i64 0) (.int .i64 0) (.int .i64 0) (.int .i64 0) w W.drew (by omega) rfl ⟨hb2, hb3, hbw.drew, HG.out.below hbw.drew HG.out.size⟩
  have hwl : (wordL tx).length ≤ 4000000 := by have := word_length tx; omega
  generalize hW1 : wordL tx = W1 at hwl hc ⊢
  have HW1 := Lib.hid hW1
  have HC := Lib.hid hc
  clear hb1 hb2 hb3 hbw hsz hW hc hW1
  go_region_with (go_at_call 8; refine HC.out.mono ?_; rintro e w1 ⟨rfl, ⟨z0, z1, z2, z3, z4, z5, z6, z7⟩, ⟨s0, s1, s2, s3, s4, s5, s6, s7⟩, ⟨f0, f1, f2, f3, f4, f5, f6, f7⟩, HB⟩)
  all_goals
    go_wp2_with fail
    have hf := over8 (.int .u8 1) (.bool false) (.string ⟨#[]⟩) (.string ⟨tx.toArray⟩) (.int .i64 0) (.int .i64 0) (.int .i64 0) (.int .i64 0) HB.out.2 rfl
    have hbf := below8 (D := w.heap.size + 1) (.int .u8 1) (.bool false) (.string ⟨#[]⟩) (.string ⟨tx.toArray⟩) (.int .i64 0) (.int .i64 0) (.int .i64 0) (.int .i64 0) HB.out.1 (by omega)
    generalize ((((((((w1.setCell ⟨w.heap.size + 1, 0, none⟩ (.int .u8 1)).setCell ⟨w.heap.size + 1, 1, none⟩ (.bool false)).setCell ⟨w.heap.size + 1, 2, none⟩ (.string ⟨#[]⟩)).setCell ⟨w.heap.size + 1, 3, none⟩ (.string ⟨tx.toArray⟩)).setCell ⟨w.heap.size + 1, 4, none⟩ (.int .i64 0)).setCell ⟨w.heap.size + 1, 5, none⟩ (.int .i64 0)).setCell ⟨w.heap.size + 1, 6, none⟩ (.int .i64 0)).setCell ⟨w.heap.size + 1, 7, none⟩ (.int .i64 0)) = wf at hf hbf ⊢
    refine bodyPost_ret_by (v := .tuple #[.agg (opCells ⟨1, false, [], tx, 0, 0, 0, 0⟩), str ([112, 117, 116, 32] ++ defW false ++ [32] ++ W1)]) ?_ rfl ⟨by rw [HW1.out]; rfl, hbf⟩
    rw [results_cell_tmp Tryz.results5]
    have q0 : wf.cell? ⟨w.heap.size + 1, 0, none⟩ = some (.int .u8 1) := hf.cell 0
    have q1 : wf.cell? ⟨w.heap.size + 1, 1, none⟩ = some (.bool false) := hf.cell 1
    have q2 : wf.cell? ⟨w.heap.size + 1, 2, none⟩ = some (.string ⟨#[]⟩) := hf.cell 2
    have q3 : wf.cell? ⟨w.heap.size + 1, 3, none⟩ = some (.string ⟨tx.toArray⟩) := hf.cell 3
    have q4 : wf.cell? ⟨w.heap.size + 1, 4, none⟩ = some (.int .i64 0) := hf.cell 4
    have q5 : wf.cell? ⟨w.heap.size + 1, 5, none⟩ = some (.int .i64 0) := hf.cell 5
    have q6 : wf.cell? ⟨w.heap.size + 1, 6, none⟩ = some (.int .i64 0) := hf.cell 6
    have q7 : wf.cell? ⟨w.heap.size + 1, 7, none⟩ = some (.int .i64 0) := hf.cell 7
    simp [go_sem, opCells, q0, q1, q2, q3, q4, q5, q6, q7, defW]
    try (apply ByteArray.ext; simp)

set_option maxHeartbeats 4000000 in
set_option maxRecDepth 100000 in
theorem op_put_def (k : Nat) (nm tx : Bs) (c0 c1 c2 c3 : Int) (w : World) (hkm : (k : Int).tmod 7 = 0) (hl : tx.length ≤ 1000000) (hG : Glob w) :
    Calls Tryz.prog 5 #[.agg #[.int .u8 k, .bool true, str nm, str tx, .int .i16 c0, .int .i16 c1, .int .i16 c2, .int .i16 c3]] w fun e w' => e = .returned (.tuple #[.agg (opCells ⟨1, true, [], tx, 0, 0, 0, 0⟩), str ([112, 117, 116, 32] ++ defW true ++ [32] ++ wordL tx)]) ∧ Below w.heap.size w w' := by
  have HG := Lib.hid hG
  clear hG
  go_enter Tryz.func5, Tryz.ntmps5
  go_wp2_with fail
  go_region
  go_wp2_with fail
  obtain ⟨hb1, hb2, hb3, hbw, hsz⟩ := three_blocks w #[.int .u8 k, .bool true, str nm, str tx, .int .i16 c0, .int .i16 c1, .int .i16 c2, .int .i16 c3] #[.int .u8 0, .bool false, .string ⟨#[]⟩, .string ⟨#[]⟩, .int .i64 0, .int .i64 0, .int .i64 0, .int .i64 0] #[.int .u8 1, .bool true, .string ⟨#[]⟩, .string ⟨tx.toArray⟩, .int .i64 0, .int .i64 0, .int .i64 0, .int .i64 0] 28 33 33
  generalize hW : (((w.alloc (.cells #[.int .u8 k, .bool true, str nm, str tx, .int .i16 c0, .int .i16 c1, .int .i16 c2, .int .i16 c3] 28)).alloc (.cells #[.int .u8 0, .bool false, .string ⟨#[]⟩, .string ⟨#[]⟩, .int .i64 0, .int .i64 0, .int .i64 0, .int .i64 0] 33)).alloc (.cells #[.int .u8 1, .bool true, .string ⟨#[]⟩, .string ⟨tx.toArray⟩, .int .i64 0, .int .i64 0, .int .i64 0, .int .i64 0] 33)).drew = W at hb1 hb2 hb3 hbw hsz ⊢
  have x3 : W.cell? ⟨w.heap.size, 3, none⟩ = some (str tx) := hb1.cell 3
  have y0 : W.cell? ⟨w.heap.size + 1 + 1, 0, none⟩ = some (.int .u8 1) := hb3.cell 0
  have y1 : W.cell? ⟨w.heap.size + 1 + 1, 1, none⟩ = some (.bool true) := hb3.cell 1
  have y2 : W.cell? ⟨w.heap.size + 1 + 1, 2, none⟩ = some (.string ⟨#[]⟩) := hb3.cell 2
  have y3 : W.cell? ⟨w.heap.size + 1 + 1, 3, none⟩ = some (.string ⟨tx.toArray⟩) := hb3.cell 3
  have y4 : W.cell? ⟨w.heap.size + 1 + 1, 4, none⟩ = some (.int .i64 0) := hb3.cell 4
  have y5 : W.cell? ⟨w.heap.size + 1 + 1, 5, none⟩ = some (.int .i64 0) := hb3.cell 5
  have y6 : W.cell? ⟨w.heap.size + 1 + 1, 6, none⟩ = some (.int .i64 0) := hb3.cell 6
  have y7 : W.cell? ⟨w.heap.size + 1 + 1, 7, none⟩ = some (.int .i64 0) := hb3.cell 7
  have hc := worded_keep tx w.heap.size (.int .u8 1) (.bool true) (.string ⟨#[]⟩) (.string ⟨tx.toArray⟩) (.int .i64 0) (.int .i64 0) (.int .i64 0) (.int .i64 0) w W.drew (by omega) rfl ⟨hb2, hb3, hbw.drew, HG.out.below hbw.drew HG.out.size⟩
  have hwl : (wordL tx).length ≤ 4000000 := by have := word_length tx; omega
  generalize hW1 : wordL tx = W1 at hwl hc ⊢
  have HW1 := Lib.hid hW1
  have HC := Lib.hid hc
  clear hb1 hb2 hb3 hbw hsz hW hc hW1
  go_region_with (go_at_call 8; refine HC.out.mono ?_; rintro e w1 ⟨rfl, ⟨z0, z1, z2, z3, z4, z5, z6, z7⟩, ⟨s0, s1, s2, s3, s4, s5, s6, s7⟩, ⟨f0, f1, f2, f3, f4, f5, f6, f7⟩, HB⟩)
  all_goals
    go_wp2_with fail
    have hf := over8 (.int .u8 1) (.bool true) (.string ⟨#[]⟩) (.string ⟨tx.toArray⟩) (.int .i64 0) (.int .i64 0) (.int .i64 0) (.int .i64 0) HB.out.2 rfl
    have hbf := below8 (D := w.heap.size + 1) (.int .u8 1) (.bool true) (.string ⟨#[]⟩) (.string ⟨tx.toArray⟩) (.int .i64 0) (.int .i64 0) (.int .i64 0) (.int .i64 0) HB.out.1 (by omega)
    generalize ((((((((w1.setCell ⟨w.heap.size + 1, 0, none⟩ (.int .u8 1)).setCell ⟨w.heap.size + 1, 1, none⟩ (.bool true)).setCell ⟨w.heap.size + 1, 2, none⟩ (.string ⟨#[]⟩)).setCell ⟨w.heap.size + 1, 3, none⟩ (.string ⟨tx.toArray⟩)).setCell ⟨w.heap.size + 1, 4, none⟩ (.int .i64 0)).setCell ⟨w.heap.size + 1, 5, none⟩ (.int .i64 0)).setCell ⟨w.heap.size + 1, 6, none⟩ (.int .i64 0)).setCell ⟨w.heap.size + 1, 7, none⟩ (.int .i64 0)) = wf at hf hbf ⊢
    refine bodyPost_ret_by (v := .tuple #[.agg (opCells ⟨1, true, [], tx, 0, 0, 0, 0⟩), str ([112, 117, 116, 32] ++ defW true ++ [32] ++ W1)]) ?_ rfl ⟨by rw [HW1.out]; rfl, hbf⟩
    rw [results_cell_tmp Tryz.results5]
    have q0 : wf.cell? ⟨w.heap.size + 1, 0, none⟩ = some (.int .u8 1) := hf.cell 0
    have q1 : wf.cell? ⟨w.heap.size + 1, 1, none⟩ = some (.bool true) := hf.cell 1
    have q2 : wf.cell? ⟨w.heap.size + 1, 2, none⟩ = some (.string ⟨#[]⟩) := hf.cell 2
    have q3 : wf.cell? ⟨w.heap.size + 1, 3, none⟩ = some (.string ⟨tx.toArray⟩) := hf.cell 3
    have q4 : wf.cell? ⟨w.heap.size + 1, 4, none⟩ = some (.int .i64 0) := hf.cell 4
    have q5 : wf.cell? ⟨w.heap.size + 1, 5, none⟩ = some (.int .i64 0) := hf.cell 5
    have q6 : wf.cell? ⟨w.heap.size + 1, 6, none⟩ = some (.int .i64 0) := hf.cell 6
    have q7 : wf.cell? ⟨w.heap.size + 1, 7, none⟩ = some (.int .i64 0) := hf.cell 7
    simp [go_sem, opCells, q0, q1, q2, q3, q4, q5, q6, q7, defW]
    try (apply ByteArray.ext; simp)

set_option maxHeartbeats 4000000 in
set_option maxRecDepth 100000 in
theorem op_compile_unit (k : Nat) (nm tx : Bs) (c0 c1 c2 c3 : Int) (w : World) (hkm : (k : Int).tmod 7 = 1) (hl : nm.length ≤ 1000000) (hG : Glob w) :
    Calls Tryz.prog 5 #[.agg #[.int .u8 k, .bool false, str nm, str tx, .int .i16 c0, .int .i16 c1, .int .i16 c2, .int .i16 c3]] w fun e w' => e = .returned (.tuple #[.agg (opCells ⟨2, false, nm, [], 0, 0, 0, 0⟩), str ([99, 111, 109, 112, 105, 108, 101, 32] ++ defW false ++ [32] ++ wordL nm)]) ∧ Below w.heap.size w w' := by
  have HG := Lib.hid hG
  clear hG
  go_enter Tryz.func5, Tryz.ntmps5
  go_wp2_with fail
  go_region
  go_wp2_with fail
  obtain ⟨hb1, hb2, hb3, hbw, hsz⟩ := three_blocks w #[.int .u8 k, .bool false, str nm, str tx, .int .i16 c0, .int .i16 c1, .int .i16 c2, .int .i16 c3] #[.int .u8 0, .bool false, .string ⟨#[]⟩, .string ⟨#[]⟩, .int .i64 0, .int .i64 0, .int .i64 0, .int .i64 0] #[.int .u8 2, .bool false, .string ⟨nm.toArray⟩, .string ⟨#[]⟩, .int .i64 0, .int .i64 0, .int .i64 0, .int .i64 0] 28 33 33
  generalize hW : (((w.alloc (.cells #[.int .u8 k, .bool false, str nm, str tx, .int .i16 c0, .int .i16 c1, .int .i16 c2, .int .i16 c3] 28)).alloc (.cells #[.int .u8 0, .bool false, .string ⟨#[]⟩, .string ⟨#[]⟩, .int .i64 0, .int .i64 0, .int .i64 0, .int .i64 0] 33)).alloc (.cells #[.int .u8 2, .bool false, .string ⟨nm.toArray⟩, .string ⟨#[]⟩, .int .i64 0, .int .i64 0, .int .i64 0, .int .i64 0] 33)).drew = W at hb1 hb2 hb3 hbw hsz ⊢
  have x3 : W.cell? ⟨w.heap.size, 2, none⟩ = some (str nm) := hb1.cell 2
  have y0 : W.cell? ⟨w.heap.size + 1 + 1, 0, none⟩ = some (.int .u8 2) := hb3.cell 0
  have y1 : W.cell? ⟨w.heap.size + 1 + 1, 1, none⟩ = some (.bool false) := hb3.cell 1
  have y2 : W.cell? ⟨w.heap.size + 1 + 1, 2, none⟩ = some (.string ⟨nm.toArray⟩) := hb3.cell 2
  have y3 : W.cell? ⟨w.heap.size + 1 + 1, 3, none⟩ = some (.string ⟨#[]⟩) := hb3.cell 3
  have y4 : W.cell? ⟨w.heap.size + 1 + 1, 4, none⟩ = some (.int .i64 0) := hb3.cell 4
  have y5 : W.cell? ⟨w.heap.size + 1 + 1, 5, none⟩ = some (.int .i64 0) := hb3.cell 5
  have y6 : W.cell? ⟨w.heap.size + 1 + 1, 6, none⟩ = some (.int .i64 0) := hb3.cell 6
  have y7 : W.cell? ⟨w.heap.size + 1 + 1, 7, none⟩ = some (.int .i64 0) := hb3.cell 7
  have hc := worded_keep nm w.heap.size (.int .u8 2) (.bool false) (.string ⟨nm.toArray⟩) (.string ⟨#[]⟩) (.int .i64 0) (.int .i64 0) (.int .i64 0) (.int .i64 0) w W.drew (by omega) rfl ⟨hb2, hb3, hbw.drew, HG.out.below hbw.drew HG.out.size⟩
  have hwl : (wordL nm).length ≤ 4000000 := by have := word_length nm; omega
  generalize hW1 : wordL nm = W1 at hwl hc ⊢
  have HW1 := Lib.hid hW1
  have HC := Lib.hid hc
  clear hb1 hb2 hb3 hbw hsz hW hc hW1
  go_region_with (go_at_call 8; refine HC.out.mono ?_; rintro e w1 ⟨rfl, ⟨z0, z1, z2, z3, z4, z5, z6, z7⟩, ⟨s0, s1, s2, s3, s4, s5, s6, s7⟩, ⟨f0, f1, f2, f3, f4, f5, f6, f7⟩, HB⟩)
  all_goals
    go_wp2_with fail
    have hf := over8 (.int .u8 2) (.bool false) (.string ⟨nm.toArray⟩) (.string ⟨#[]⟩) (.int .i64 0) (.int .i64 0) (.int .i64 0) (.int .i64 0) HB.out.2 rfl
    have hbf := below8 (D := w.heap.size + 1) (.int .u8 2) (.bool false) (.string ⟨nm.toArray⟩) (.string ⟨#[]⟩) (.int .i64 0) (.int .i64 0) (.int .i64 0) (.int .i64 0) HB.out.1 (by omega)
    generalize ((((((((w1.setCell ⟨w.heap.size + 1, 0, none⟩ (.int .u8 2)).setCell ⟨w.heap.size + 1, 1, none⟩ (.bool false)).setCell ⟨w.heap.size + 1, 2, none⟩ (.string ⟨nm.toArray⟩)).setCell ⟨w.heap.size + 1, 3, none⟩ (.string ⟨#[]⟩)).setCell ⟨w.heap.size + 1, 4, none⟩ (.int .i64 0)).setCell ⟨w.heap.size + 1, 5, none⟩ (.int .i64 0)).setCell ⟨w.heap.size + 1, 6, none⟩ (.int .i64 0)).setCell ⟨w.heap.size + 1, 7, none⟩ (.int .i64 0)) = wf at hf hbf ⊢
    refine bodyPost_ret_by (v := .tuple #[.agg (opCells ⟨2, false, nm, [], 0, 0, 0, 0⟩), str ([99, 111, 109, 112, 105, 108, 101, 32] ++ defW false ++ [32] ++ W1)]) ?_ rfl ⟨by rw [HW1.out]; rfl, hbf⟩
    rw [results_cell_tmp Tryz.results5]
    have q0 : wf.cell? ⟨w.heap.size + 1, 0, none⟩ = some (.int .u8 2) := hf.cell 0
    have q1 : wf.cell? ⟨w.heap.size + 1, 1, none⟩ = some (.bool false) := hf.cell 1
    have q2 : wf.cell? ⟨w.heap.size + 1, 2, none⟩ = some (.string ⟨nm.toArray⟩) := hf.cell 2
    have q3 : wf.cell? ⟨w.heap.size + 1, 3, none⟩ = some (.string ⟨#[]⟩) := hf.cell 3
    have q4 : wf.cell? ⟨w.heap.size + 1, 4, none⟩ = some (.int .i64 0) := hf.cell 4
    have q5 : wf.cell? ⟨w.heap.size + 1, 5, none⟩ = some (.int .i64 0) := hf.cell 5
    have q6 : wf.cell? ⟨w.heap.size + 1, 6, none⟩ = some (.int .i64 0) := hf.cell 6
    have q7 : wf.cell? ⟨w.heap.size + 1, 7, none⟩ = some (.int .i64 0) := hf.cell 7
    simp [go_sem, opCells, q0, q1, q2, q3, q4, q5, q6, q7, defW]
    try (apply ByteArray.ext; simp)

set_option maxHeartbeats 4000000 in
set_option maxRecDepth 100000 in
theorem op_compile_def (k : Nat) (nm tx : Bs) (c0 c1 c2 c3 : Int) (w : World) (hkm : (k : Int).tmod 7 = 1) (hl : nm.length ≤ 1000000) (hG : Glob w) :
    Calls Tryz.prog 5 #[.agg #[.int .u8 k, .bool true, str nm, str tx, .int .i16 c0, .int .i16 c1, .int .i16 c2, .int .i16 c3]] w fun e w' => e = .returned (.tuple #[.agg (opCells ⟨2, true, nm, [], 0, 0, 0, 0⟩), str ([99, 111, 109, 112, 105, 108, 101, 32] ++ defW true ++ [32] ++ wordL nm)]) ∧ Below w.heap.size w w' := by
  have HG := Lib.hid hG
  clear hG
  go_enter Tryz.func5, Tryz.ntmps5
  go_wp2_with fail
  go_region
  go_wp2_with fail
  obtain ⟨hb1, hb2, hb3, hbw, hsz⟩ := three_blocks w #[.int .u8 k, .bool true, str nm, str tx, .int .i16 c0, .int .i16 c1, .int .i16 c2, .int .i16 c3] #[.int .u8 0, .bool false, .string ⟨#[]⟩, .string ⟨#[]⟩, .int .i64 0, .int .i64 0, .int .i64 0, .int .i64 0] #[.int .u8 2, .bool true, .string ⟨nm.toArray⟩, .string ⟨#[]⟩, .int .i64 0, .int .i64 0, .int .i64 0, .int .i64 0] 28 33 33
  generalize hW : (((w.alloc (.cells #[.int .u8 k, .bool true, str nm, str tx, .int .i16 c0, .int .i16 c1, .int .i16 c2, .int .i16 c3] 28)).alloc (.cells #[.int .u8 0, .bool false, .string ⟨#[]⟩, .string ⟨#[]⟩, .int .i64 0, .int .i64 0, .int .i64 0, .int .i64 0] 33)).alloc (.cells #[.int .u8 2, .bool true, .string ⟨nm.toArray⟩, .string ⟨#[]⟩, .int .i64 0, .int .i64 0, .int .i64 0, .int .i64 0] 33)).drew = W at hb1 hb2 hb3 hbw hsz ⊢
  have x3 : W.cell? ⟨w.heap.size, 2, none⟩ = some (str nm) := hb1.cell 2
  have y0 : W.cell? ⟨w.heap.size + 1 + 1, 0, none⟩ = some (.int .u8 2) := hb3.cell 0
  have y1 : W.cell? ⟨w.heap.size + 1 + 1, 1, none⟩ = some (.bool true) := hb3.cell 1
  have y2 : W.cell? ⟨w.heap.size + 1 + 1, 2, none⟩ = some (.string ⟨nm.toArray⟩) := hb3.cell 2
  have y3 : W.cell? ⟨w.heap.size + 1 + 1, 3, none⟩ = some (.string ⟨#[]⟩) := hb3.cell 3
  have y4 : W.cell? ⟨w.heap.size + 1 + 1, 4, none⟩ = some (.int .i64 0) := hb3.cell 4
  have y5 : W.cell? ⟨w.heap.size + 1 + 1, 5, none⟩ = some (.int .i64 0) := hb3.cell 5
  have y6 : W.cell? ⟨w.heap.size + 1 + 1, 6, none⟩ = some (.int .i64 0) := hb3.cell 6
  have y7 : W.cell? ⟨w.heap.size + 1 + 1, 7, none⟩ = some (.int .i64 0) := hb3.cell 7
  have hc := worded_keep nm w.heap.size (.int .u8 2) (.bool true) (.string ⟨nm.toArray⟩) (.string ⟨#[]⟩) (.int .i64 0) (.int .i64 0) (.int .i64 0) (.int .i64 0) w W.drew (by omega) rfl ⟨hb2, hb3, hbw.drew, HG.out.below hbw.drew HG.out.size⟩
  have hwl : (wordL nm).length ≤ 4000000 := by have := word_length nm; omega
  generalize hW1 : wordL nm = W1 at hwl hc ⊢
  have HW1 := Lib.hid hW1
  have HC := Lib.hid hc
  clear hb1 hb2 hb3 hbw hsz hW hc hW1
  go_region_with (go_at_call 8; refine HC.out.mono ?_; rintro e w1 ⟨rfl, ⟨z0, z1, z2, z3, z4, z5, z6, z7⟩, ⟨s0, s1, s2, s3, s4, s5, s6, s7⟩, ⟨f0, f1, f2, f3, f4, f5, f6, f7⟩, HB⟩)
  all_goals
    go_wp2_with fail
    have hf := over8 (.int .u8 2) (.bool true) (.string ⟨nm.toArray⟩) (.string ⟨#[]⟩) (.int .i64 0) (.int .i64 0) (.int .i64 0) (.int .i64 0) HB.out.2 rfl
    have hbf := below8 (D := w.heap.size + 1) (.int .u8 2) (.bool true) (.string ⟨nm.toArray⟩) (.string ⟨#[]⟩) (.int .i64 0) (.int .i64 0) (.int .i64 0) (.int .i64 0) HB.out.1 (by omega)
    generalize ((((((((w1.setCell ⟨w.heap.size + 1, 0, none⟩ (.int .u8 2)).setCell ⟨w.heap.size + 1, 1, none⟩ (.bool true)).setCell ⟨w.heap.size + 1, 2, none⟩ (.string ⟨nm.toArray⟩)).setCell ⟨w.heap.size + 1, 3, none⟩ (.string ⟨#[]⟩)).setCell ⟨w.heap.size + 1, 4, none⟩ (.int .i64 0)).setCell ⟨w.heap.size + 1, 5, none⟩ (.int .i64 0)).setCell ⟨w.heap.size + 1, 6, none⟩ (.int .i64 0)).setCell ⟨w.heap.size + 1, 7, none⟩ (.int .i64 0)) = wf at hf hbf ⊢
    refine bodyPost_ret_by (v := .tuple #[.agg (opCells ⟨2, true, nm, [], 0, 0, 0, 0⟩), str ([99, 111, 109, 112, 105, 108, 101, 32] ++ defW true ++ [32] ++ W1)]) ?_ rfl ⟨by rw [HW1.out]; rfl, hbf⟩
    rw [results_cell_tmp Tryz.results5]
    have q0 : wf.cell? ⟨w.heap.size + 1, 0, none⟩ = some (.int .u8 2) := hf.cell 0
    have q1 : wf.cell? ⟨w.heap.size + 1, 1, none⟩ = some (.bool true) := hf.cell 1
    have q2 : wf.cell? ⟨w.heap.size + 1, 2, none⟩ = some (.string ⟨nm.toArray⟩) := hf.cell 2
    have q3 : wf.cell? ⟨w.heap.size + 1, 3, none⟩ = some (.string ⟨#[]⟩) := hf.cell 3
    have q4 : wf.cell? ⟨w.heap.size + 1, 4, none⟩ = some (.int .i64 0) := hf.cell 4
    have q5 : wf.cell? ⟨w.heap.size + 1, 5, none⟩ = some (.int .i64 0) := hf.cell 5
    have q6 : wf.cell? ⟨w.heap.size + 1, 6, none⟩ = some (.int .i64 0) := hf.cell 6
    have q7 : wf.cell? ⟨w.heap.size + 1, 7, none⟩ = some (.int .i64 0) := hf.cell 7
    simp [go_sem, opCells, q0, q1, q2, q3, q4, q5, q6, q7, defW]
    try (apply ByteArray.ext; simp)


end Go.Proofs.YtadncponjpdcmaaGreatDoor

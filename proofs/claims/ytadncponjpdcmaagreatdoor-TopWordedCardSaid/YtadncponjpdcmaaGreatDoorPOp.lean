/-
  lines.Op: walked: a line's op.
-/
import Derived.Test.YtadncponjpdcmaaGreatDoorWds
namespace Go.Proofs.YtadncponjpdcmaaGreatDoor
open Go.RowKit

theorem split1_short (k : UInt8) : ∀ (l : Bs), ∀ p ∈ split1 k l, p.length ≤ l.length
  | [], p, h => by simp [split1] at h; simp [h]
  | c :: l, p, h => by
    have ih := split1_short k l
    unfold split1 at h
    split at h
    · rcases List.mem_cons.1 h with rfl | h
      · simp
      · have := ih p h; simp; omega
    · split at h
      · simp at h; subst h; simp
      · rename_i q r hq
        rw [hq] at ih
        rcases List.mem_cons.1 h with rfl | h
        · have := ih q (by simp); simp; omega
        · have := ih p (by simp [h]); simp; omega

theorem wordsL_short {l : Bs} : ∀ p ∈ wordsL l, p.length ≤ l.length := fun p h => split1_short 32 l p (List.mem_filter.1 h).1

theorem eight (cs : Array Value) (hs : cs.size = 8) : ∃ a0 a1 a2 a3 a4 a5 a6 a7, cs = #[a0, a1, a2, a3, a4, a5, a6, a7] := by
  obtain ⟨l⟩ := cs
  have hl : l.length = 8 := hs
  clear hs
  obtain _ | ⟨a0, l⟩ := l
  · simp at hl
  obtain _ | ⟨a1, l⟩ := l
  · simp at hl
  obtain _ | ⟨a2, l⟩ := l
  · simp at hl
  obtain _ | ⟨a3, l⟩ := l
  · simp at hl
  obtain _ | ⟨a4, l⟩ := l
  · simp at hl
  obtain _ | ⟨a5, l⟩ := l
  · simp at hl
  obtain _ | ⟨a6, l⟩ := l
  · simp at hl
  obtain _ | ⟨a7, l⟩ := l
  · simp at hl
  obtain _ | ⟨a8, l⟩ := l
  · exact ⟨a0, a1, a2, a3, a4, a5, a6, a7, rfl⟩
  · simp at hl

theorem over8 {w1 : World} {D : Nat} {t : TypeId} {cs : Array Value} (v0 v1 v2 v3 v4 v5 v6 v7 : Value) (h : Blk w1 D t cs) (hs : cs.size = 8) :
    Blk ((((((((w1.setCell ⟨D, 0, none⟩ v0).setCell ⟨D, 1, none⟩ v1).setCell ⟨D, 2, none⟩ v2).setCell ⟨D, 3, none⟩ v3).setCell ⟨D, 4, none⟩ v4).setCell ⟨D, 5, none⟩ v5).setCell ⟨D, 6, none⟩ v6).setCell ⟨D, 7, none⟩ v7) D t #[v0, v1, v2, v3, v4, v5, v6, v7] := by
  have h8 := (((((((h.set_ 0 v0).set_ 1 v1).set_ 2 v2).set_ 3 v3).set_ 4 v4).set_ 5 v5).set_ 6 v6).set_ 7 v7
  have e : (((((((cs.setIfInBounds 0 v0).setIfInBounds 1 v1).setIfInBounds 2 v2).setIfInBounds 3 v3).setIfInBounds 4 v4).setIfInBounds 5 v5).setIfInBounds 6 v6).setIfInBounds 7 v7 = #[v0, v1, v2, v3, v4, v5, v6, v7] := by
    obtain ⟨a0, a1, a2, a3, a4, a5, a6, a7, rfl⟩ := eight cs hs
    simp only [List.setIfInBounds_toArray, List.set_cons_zero, List.set_cons_succ]
  rw [e] at h8
  exact h8

theorem below8 {w w1 : World} {B D : Nat} (v0 v1 v2 v3 v4 v5 v6 v7 : Value) (h : Below B w w1) (hD : B ≤ D) :
    Below B w ((((((((w1.setCell ⟨D, 0, none⟩ v0).setCell ⟨D, 1, none⟩ v1).setCell ⟨D, 2, none⟩ v2).setCell ⟨D, 3, none⟩ v3).setCell ⟨D, 4, none⟩ v4).setCell ⟨D, 5, none⟩ v5).setCell ⟨D, 6, none⟩ v6).setCell ⟨D, 7, none⟩ v7) :=
  (((((((h.setCell (p := ⟨D, 0, none⟩) hD _).setCell (p := ⟨D, 1, none⟩) hD _).setCell (p := ⟨D, 2, none⟩) hD _).setCell (p := ⟨D, 3, none⟩) hD _).setCell (p := ⟨D, 4, none⟩) hD _).setCell (p := ⟨D, 5, none⟩) hD _).setCell (p := ⟨D, 6, none⟩) hD _).setCell (p := ⟨D, 7, none⟩) hD _

set_option maxHeartbeats 2000000 in
set_option maxRecDepth 100000 in
theorem Op_yes (s : ByteArray) (w : World) (hs : s.size ≤ 1000000000) (hG : Glob w) (o : OpL) (ho : readL (wordsL s.data.toList) = (o, true)) :
    Calls Tryz.prog 15 #[.string s] w fun e w' => e = .returned (.tuple #[.agg (opCells o), .int .i64 0]) ∧ Below w.heap.size w w' := by
  have hsh : ∀ p ∈ wordsL s.data.toList, p.length ≤ 1000000000 := fun p h => by have := wordsL_short p h; simp at this; have : s.data.size = s.size := rfl; omega
  obtain ⟨w0, hw0⟩ : ∃ w0 : World, w0 = w.alloc (.cells #[.int .u8 0, .bool false, .string ⟨#[]⟩, .string ⟨#[]⟩, .int .i64 0, .int .i64 0, .int .i64 0, .int .i64 0] 33) := ⟨_, rfl⟩
  have hb0 : Below w.heap.size w w0 := by rw [hw0]; exact (Below.refl _ w).alloc (Nat.le_refl _) _
  have hD0 : Blk w0 w.heap.size 33 zeroCellsOf := by rw [hw0]; exact Blk.new w 33 _
  have hG0 : Glob w0 := hG.below hb0 hG.size
  have c38 := words_any s w0 hs hG0
  have HSH := Lib.hid hsh
  have HO := Lib.hid ho
  have C38 := Lib.hid c38
  have HB0 := Lib.hid hb0
  have HD0 := Lib.hid hD0
  have HG0 := Lib.hid hG0
  have HW0 := Lib.hid hw0
  clear hsh ho c38 hb0 hD0 hG0 hw0 hG
  go_enter Tryz.func15, Tryz.ntmps15
  go_wp2_with fail
  rw [← HW0.out]
  refine C38.out.mono ?_
  rintro e w1 ⟨A, n, c, rfl, hr, hnc, hcm, hb1⟩
  have c11 := read_any w1.heap.size A n c _ w1 hr hnc hcm (Nat.le_refl _) (by have := HG0.out.size; have := hb1.size; omega) HSH.out (HG0.out.below hb1 HG0.out.size) o true HO.out
  have C11 := Lib.hid c11
  have HB1 := Lib.hid hb1
  clear hr c11 hb1
  go_wp2_with fail
  refine C11.out.mono ?_
  rintro e w2 ⟨rfl, hb2⟩
  have hb02 : Below w0.heap.size w0 w2 := HB1.out.trans (hb2.mono HB1.out.size)
  have hD2 := HD0.out.below hb02 HD0.out.lt
  have hbw : Below w.heap.size w w2 := HB0.out.trans (hb02.mono HB0.out.size)
  have hlt : w.heap.size < w2.heap.size := by have := HD0.out.lt; have := hb02.size; omega
  have f0 : w2.frozen? ⟨w.heap.size, 0, none⟩ = false := hD2.frozen 0
  have f1 : w2.frozen? ⟨w.heap.size, 1, none⟩ = false := hD2.frozen 1
  have f2 : w2.frozen? ⟨w.heap.size, 2, none⟩ = false := hD2.frozen 2
  have f3 : w2.frozen? ⟨w.heap.size, 3, none⟩ = false := hD2.frozen 3
  have f4 : w2.frozen? ⟨w.heap.size, 4, none⟩ = false := hD2.frozen 4
  have f5 : w2.frozen? ⟨w.heap.size, 5, none⟩ = false := hD2.frozen 5
  have f6 : w2.frozen? ⟨w.heap.size, 6, none⟩ = false := hD2.frozen 6
  have f7 : w2.frozen? ⟨w.heap.size, 7, none⟩ = false := hD2.frozen 7
  have z0 : w2.cell? ⟨w.heap.size, 0, none⟩ = some (.int .u8 0) := hD2.cell 0
  have z1 : w2.cell? ⟨w.heap.size, 1, none⟩ = some (.bool false) := hD2.cell 1
  have z2 : w2.cell? ⟨w.heap.size, 2, none⟩ = some (str []) := hD2.cell 2
  have z3 : w2.cell? ⟨w.heap.size, 3, none⟩ = some (str []) := hD2.cell 3
  have z4 : w2.cell? ⟨w.heap.size, 4, none⟩ = some (.int .i64 0) := hD2.cell 4
  have z5 : w2.cell? ⟨w.heap.size, 5, none⟩ = some (.int .i64 0) := hD2.cell 5
  have z6 : w2.cell? ⟨w.heap.size, 6, none⟩ = some (.int .i64 0) := hD2.cell 6
  have z7 : w2.cell? ⟨w.heap.size, 7, none⟩ = some (.int .i64 0) := hD2.cell 7
  have HD2 := Lib.hid hD2
  have HBW := Lib.hid hbw
  clear hb2 hb02 hD2 hbw
  obtain ⟨d, df, nm, tx, m0, m1, m2, m3⟩ := o
  have hop : opCells ⟨d, df, nm, tx, m0, m1, m2, m3⟩ = #[.int .u8 d, .bool df, str nm, str tx, .int .i64 m0, .int .i64 m1, .int .i64 m2, .int .i64 m3] := rfl
  rw [hop]
  clear hop
  go_wp2_with fail
  have hf := over8 (.int .u8 d) (.bool df) (str nm) (str tx) (.int .i64 m0) (.int .i64 m1) (.int .i64 m2) (.int .i64 m3) HD2.out rfl
  have hbf := below8 (D := w.heap.size) (.int .u8 d) (.bool df) (str nm) (str tx) (.int .i64 m0) (.int .i64 m1) (.int .i64 m2) (.int .i64 m3) HBW.out (Nat.le_refl _)
  generalize ((((((((w2.setCell ⟨w.heap.size, 0, none⟩ (.int .u8 d)).setCell ⟨w.heap.size, 1, none⟩ (.bool df)).setCell ⟨w.heap.size, 2, none⟩ (str nm)).setCell ⟨w.heap.size, 3, none⟩ (str tx)).setCell ⟨w.heap.size, 4, none⟩ (.int .i64 m0)).setCell ⟨w.heap.size, 5, none⟩ (.int .i64 m1)).setCell ⟨w.heap.size, 6, none⟩ (.int .i64 m2)).setCell ⟨w.heap.size, 7, none⟩ (.int .i64 m3)) = wf at hf hbf ⊢
  have hf2 := hf.alloc (.cells #[.int .u8 d, .bool df, str nm, str tx, .int .i64 m0, .int .i64 m1, .int .i64 m2, .int .i64 m3] 33)
  have hbf2 := hbf.alloc (hbf.size) (.cells #[.int .u8 d, .bool df, str nm, str tx, .int .i64 m0, .int .i64 m1, .int .i64 m2, .int .i64 m3] 33)
  refine bodyPost_ret_by (v := .tuple #[.agg (opCells ⟨d, df, nm, tx, m0, m1, m2, m3⟩), .int .i64 0]) ?_ rfl ⟨rfl, hbf2⟩
  rw [results_cell_tmp Tryz.results15]
  generalize wf.alloc (.cells #[.int .u8 d, .bool df, str nm, str tx, .int .i64 m0, .int .i64 m1, .int .i64 m2, .int .i64 m3] 33) = wg at hf2 hbf2 ⊢
  have q0 : wg.cell? ⟨w.heap.size, 0, none⟩ = some (.int .u8 d) := hf2.cell 0
  have q1 : wg.cell? ⟨w.heap.size, 1, none⟩ = some (.bool df) := hf2.cell 1
  have q2 : wg.cell? ⟨w.heap.size, 2, none⟩ = some (str nm) := hf2.cell 2
  have q3 : wg.cell? ⟨w.heap.size, 3, none⟩ = some (str tx) := hf2.cell 3
  have q4 : wg.cell? ⟨w.heap.size, 4, none⟩ = some (.int .i64 m0) := hf2.cell 4
  have q5 : wg.cell? ⟨w.heap.size, 5, none⟩ = some (.int .i64 m1) := hf2.cell 5
  have q6 : wg.cell? ⟨w.heap.size, 6, none⟩ = some (.int .i64 m2) := hf2.cell 6
  have q7 : wg.cell? ⟨w.heap.size, 7, none⟩ = some (.int .i64 m3) := hf2.cell 7
  simp [go_sem, opCells, q0, q1, q2, q3, q4, q5, q6, q7]

def zeroOp : OpL := ⟨0, false, [], [], 0, 0, 0, 0⟩

set_option maxHeartbeats 2000000 in
set_option maxRecDepth 100000 in
theorem Op_no (s : ByteArray) (w : World) (hs : s.size ≤ 1000000000) (hG : Glob w) (ho : (readL (wordsL s.data.toList)).2 = false) :
    Calls Tryz.prog 15 #[.string s] w fun e w' => e = .returned (.tuple #[.agg (opCells zeroOp), .int .i64 320]) ∧ Below w.heap.size w w' := by
  have hsh : ∀ p ∈ wordsL s.data.toList, p.length ≤ 1000000000 := fun p h => by have := wordsL_short p h; simp at this; have : s.data.size = s.size := rfl; omega
  obtain ⟨w0, hw0⟩ : ∃ w0 : World, w0 = w.alloc (.cells #[.int .u8 0, .bool false, .string ⟨#[]⟩, .string ⟨#[]⟩, .int .i64 0, .int .i64 0, .int .i64 0, .int .i64 0] 33) := ⟨_, rfl⟩
  have hb0 : Below w.heap.size w w0 := by rw [hw0]; exact (Below.refl _ w).alloc (Nat.le_refl _) _
  have hD0 : Blk w0 w.heap.size 33 zeroCellsOf := by rw [hw0]; exact Blk.new w 33 _
  have hG0 : Glob w0 := hG.below hb0 hG.size
  have c38 := words_any s w0 hs hG0
  obtain ⟨o, ho2⟩ : ∃ o, readL (wordsL s.data.toList) = (o, false) := ⟨_, Prod.ext rfl ho⟩
  have HSH := Lib.hid hsh
  have HO := Lib.hid ho2
  have C38 := Lib.hid c38
  have HB0 := Lib.hid hb0
  have HD0 := Lib.hid hD0
  have HG0 := Lib.hid hG0
  have HW0 := Lib.hid hw0
  clear hsh ho ho2 c38 hb0 hD0 hG0 hw0 hG
  go_enter Tryz.func15, Tryz.ntmps15
  go_wp2_with fail
  rw [← HW0.out]
  refine C38.out.mono ?_
  rintro e w1 ⟨A, n, c, rfl, hr, hnc, hcm, hb1⟩
  have c11 := read_any w1.heap.size A n c _ w1 hr hnc hcm (Nat.le_refl _) (by have := HG0.out.size; have := hb1.size; omega) HSH.out (HG0.out.below hb1 HG0.out.size) o false HO.out
  have C11 := Lib.hid c11
  have HB1 := Lib.hid hb1
  clear hr c11 hb1
  go_wp2_with fail
  refine C11.out.mono ?_
  rintro e w2 ⟨rfl, hb2⟩
  have hb02 : Below w0.heap.size w0 w2 := HB1.out.trans (hb2.mono HB1.out.size)
  have hD2 := HD0.out.below hb02 HD0.out.lt
  have hbw : Below w.heap.size w w2 := HB0.out.trans (hb02.mono HB0.out.size)
  have hlt : w.heap.size < w2.heap.size := by have := HD0.out.lt; have := hb02.size; omega
  have f0 : w2.frozen? ⟨w.heap.size, 0, none⟩ = false := hD2.frozen 0
  have f1 : w2.frozen? ⟨w.heap.size, 1, none⟩ = false := hD2.frozen 1
  have f2 : w2.frozen? ⟨w.heap.size, 2, none⟩ = false := hD2.frozen 2
  have f3 : w2.frozen? ⟨w.heap.size, 3, none⟩ = false := hD2.frozen 3
  have f4 : w2.frozen? ⟨w.heap.size, 4, none⟩ = false := hD2.frozen 4
  have f5 : w2.frozen? ⟨w.heap.size, 5, none⟩ = false := hD2.frozen 5
  have f6 : w2.frozen? ⟨w.heap.size, 6, none⟩ = false := hD2.frozen 6
  have f7 : w2.frozen? ⟨w.heap.size, 7, none⟩ = false := hD2.frozen 7
  have z0 : w2.cell? ⟨w.heap.size, 0, none⟩ = some (.int .u8 0) := hD2.cell 0
  have z1 : w2.cell? ⟨w.heap.size, 1, none⟩ = some (.bool false) := hD2.cell 1
  have z2 : w2.cell? ⟨w.heap.size, 2, none⟩ = some (.string ⟨#[]⟩) := hD2.cell 2
  have z3 : w2.cell? ⟨w.heap.size, 3, none⟩ = some (.string ⟨#[]⟩) := hD2.cell 3
  have z4 : w2.cell? ⟨w.heap.size, 4, none⟩ = some (.int .i64 0) := hD2.cell 4
  have z5 : w2.cell? ⟨w.heap.size, 5, none⟩ = some (.int .i64 0) := hD2.cell 5
  have z6 : w2.cell? ⟨w.heap.size, 6, none⟩ = some (.int .i64 0) := hD2.cell 6
  have z7 : w2.cell? ⟨w.heap.size, 7, none⟩ = some (.int .i64 0) := hD2.cell 7
  have HD2 := Lib.hid hD2
  have HBW := Lib.hid hbw
  clear hb2 hb02 hD2 hbw
  obtain ⟨d, df, nm, tx, m0, m1, m2, m3⟩ := o
  have hop : opCells ⟨d, df, nm, tx, m0, m1, m2, m3⟩ = #[.int .u8 d, .bool df, str nm, str tx, .int .i64 m0, .int .i64 m1, .int .i64 m2, .int .i64 m3] := rfl
  rw [hop]
  clear hop
  go_wp2_with fail
  have hf := over8 (.int .u8 0) (.bool false) (.string ⟨#[]⟩) (.string ⟨#[]⟩) (.int .i64 0) (.int .i64 0) (.int .i64 0) (.int .i64 0) HD2.out rfl
  have hbf := below8 (D := w.heap.size) (.int .u8 0) (.bool false) (.string ⟨#[]⟩) (.string ⟨#[]⟩) (.int .i64 0) (.int .i64 0) (.int .i64 0) (.int .i64 0) HBW.out (Nat.le_refl _)
  generalize ((((((((w2.setCell ⟨w.heap.size, 0, none⟩ (.int .u8 0)).setCell ⟨w.heap.size, 1, none⟩ (.bool false)).setCell ⟨w.heap.size, 2, none⟩ (.string ⟨#[]⟩)).setCell ⟨w.heap.size, 3, none⟩ (.string ⟨#[]⟩)).setCell ⟨w.heap.size, 4, none⟩ (.int .i64 0)).setCell ⟨w.heap.size, 5, none⟩ (.int .i64 0)).setCell ⟨w.heap.size, 6, none⟩ (.int .i64 0)).setCell ⟨w.heap.size, 7, none⟩ (.int .i64 0)) = wf at hf hbf ⊢
  have hf2 := hf.alloc (.cells #[.int .u8 d, .bool df, str nm, str tx, .int .i64 m0, .int .i64 m1, .int .i64 m2, .int .i64 m3] 33)
  have hbf2 := hbf.alloc (hbf.size) (.cells #[.int .u8 d, .bool df, str nm, str tx, .int .i64 m0, .int .i64 m1, .int .i64 m2, .int .i64 m3] 33)
  refine bodyPost_ret_by (v := .tuple #[.agg (opCells zeroOp), .int .i64 320]) ?_ rfl ⟨rfl, hbf2⟩
  rw [results_cell_tmp Tryz.results15]
  generalize wf.alloc (.cells #[.int .u8 d, .bool df, str nm, str tx, .int .i64 m0, .int .i64 m1, .int .i64 m2, .int .i64 m3] 33) = wg at hf2 hbf2 ⊢
  have q0 : wg.cell? ⟨w.heap.size, 0, none⟩ = some (.int .u8 0) := hf2.cell 0
  have q1 : wg.cell? ⟨w.heap.size, 1, none⟩ = some (.bool false) := hf2.cell 1
  have q2 : wg.cell? ⟨w.heap.size, 2, none⟩ = some (.string ⟨#[]⟩) := hf2.cell 2
  have q3 : wg.cell? ⟨w.heap.size, 3, none⟩ = some (.string ⟨#[]⟩) := hf2.cell 3
  have q4 : wg.cell? ⟨w.heap.size, 4, none⟩ = some (.int .i64 0) := hf2.cell 4
  have q5 : wg.cell? ⟨w.heap.size, 5, none⟩ = some (.int .i64 0) := hf2.cell 5
  have q6 : wg.cell? ⟨w.heap.size, 6, none⟩ = some (.int .i64 0) := hf2.cell 6
  have q7 : wg.cell? ⟨w.heap.size, 7, none⟩ = some (.int .i64 0) := hf2.cell 7
  simp [go_sem, opCells, zeroOp, q0, q1, q2, q3, q4, q5, q6, q7]

end Go.Proofs.YtadncponjpdcmaaGreatDoor

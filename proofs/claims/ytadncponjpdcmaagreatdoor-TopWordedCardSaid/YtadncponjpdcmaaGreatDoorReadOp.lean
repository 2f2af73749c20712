/-
  lines.read: walked.
-/
import Derived.Test.YtadncponjpdcmaaGreatDoorOpR4
namespace Go.Proofs.YtadncponjpdcmaaGreatDoor
open Go.RowKit

/-- What is read, of words: the op, and whether it is one. -/
def readL (ws : List Bs) : OpL × Bool := ((readOp ws).1, !(readOp ws).2.2 && (readOp ws).2.1.isEmpty)

theorem zero_blocks (A : Option Addr) (n c : Nat) (w : World) :
    Blk ((w.alloc (.cells #[.int .u8 0, .bool false, .string ⟨#[]⟩, .string ⟨#[]⟩, .int .i64 0, .int .i64 0, .int .i64 0, .int .i64 0] 33)).alloc (.cells #[.slice A n c, .bool true, .bool false] 45)) w.heap.size 33 zeroCellsOf ∧
    Blk ((w.alloc (.cells #[.int .u8 0, .bool false, .string ⟨#[]⟩, .string ⟨#[]⟩, .int .i64 0, .int .i64 0, .int .i64 0, .int .i64 0] 33)).alloc (.cells #[.slice A n c, .bool true, .bool false] 45)) (w.heap.size + 1) 45 #[.slice A n c, .bool true, .bool false] := by
  constructor
  · exact (Blk.new w 33 _).alloc _
  · have := Blk.new (w.alloc (.cells #[.int .u8 0, .bool false, .string ⟨#[]⟩, .string ⟨#[]⟩, .int .i64 0, .int .i64 0, .int .i64 0, .int .i64 0] 33)) 45 #[.slice A n c, .bool true, .bool false]
    simpa using this

theorem Blk.same {w : World} {g i : Nat} {t : TypeId} {cs : Array Value} {v : Value} (h : Blk w g t cs) (hv : cs[i]? = some v) : Blk (w.setCell ⟨g, i, none⟩ v) g t cs := by
  have := h.set_ i v
  rwa [set_same hv] at this

abbrev stored (w1 : World) (D d : Nat) (df : Bool) (nm tx : Bs) (m0 m1 m2 m3 : Int) : World :=
  ((((((((w1.setCell ⟨D, 0, none⟩ (.int .u8 d)).setCell ⟨D, 1, none⟩ (.bool df)).setCell ⟨D, 2, none⟩ (str nm)).setCell ⟨D, 3, none⟩ (str tx)).setCell ⟨D, 4, none⟩ (.int .i64 m0)).setCell ⟨D, 5, none⟩ (.int .i64 m1)).setCell ⟨D, 6, none⟩ (.int .i64 m2)).setCell ⟨D, 7, none⟩ (.int .i64 m3))

theorem op_stored {w1 : World} {D : Nat} (d : Nat) (df : Bool) (nm tx : Bs) (m0 m1 m2 m3 : Int) (h : Blk w1 D 33 (opCells ⟨d, df, nm, tx, m0, m1, m2, m3⟩)) :
    Blk (stored w1 D d df nm tx m0 m1 m2 m3) D 33 (opCells ⟨d, df, nm, tx, m0, m1, m2, m3⟩) :=
  (((((((h.same (i := 0) rfl).same (i := 1) rfl).same (i := 2) rfl).same (i := 3) rfl).same (i := 4) rfl).same (i := 5) rfl).same (i := 6) rfl).same (i := 7) rfl

theorem below_stored {w w1 : World} (d : Nat) (df : Bool) (nm tx : Bs) (m0 m1 m2 m3 : Int) (h : Below w.heap.size w w1) : Below w.heap.size w (stored w1 w.heap.size d df nm tx m0 m1 m2 m3) :=
  (((((((h.setCell (p := ⟨w.heap.size, 0, none⟩) (Nat.le_refl _) _).setCell (p := ⟨w.heap.size, 1, none⟩) (Nat.le_refl _) _).setCell (p := ⟨w.heap.size, 2, none⟩) (Nat.le_refl _) _).setCell (p := ⟨w.heap.size, 3, none⟩) (Nat.le_refl _) _).setCell (p := ⟨w.heap.size, 4, none⟩) (Nat.le_refl _) _).setCell (p := ⟨w.heap.size, 5, none⟩) (Nat.le_refl _) _).setCell (p := ⟨w.heap.size, 6, none⟩) (Nat.le_refl _) _).setCell (p := ⟨w.heap.size, 7, none⟩) (Nat.le_refl _) _

set_option maxHeartbeats 2000000 in
set_option maxRecDepth 100000 in
theorem read_any (B : Nat) (A : Option Addr) (n c : Nat) (ws : List Bs) (w : World) (hr : Reads w B 1 A n (ws.map str)) (hn : n ≤ c) (hc : c ≤ maxLen) (hB : B ≤ w.heap.size) (hB8 : 8 ≤ B) (hs : ∀ s ∈ ws, s.length ≤ 1000000000) (hG : Glob w)
    (o : OpL) (ok : Bool) (ho : readL ws = (o, ok)) :
    Calls Tryz.prog 11 #[.slice A n c] w fun e w' => e = .returned (.tuple #[.agg (opCells o), .bool ok]) ∧ Below w.heap.size w w' := by
  obtain ⟨hD, hK⟩ := zero_blocks A n c w
  have hb : Below w.heap.size w ((w.alloc (.cells #[.int .u8 0, .bool false, .string ⟨#[]⟩, .string ⟨#[]⟩, .int .i64 0, .int .i64 0, .int .i64 0, .int .i64 0] 33)).alloc (.cells #[.slice A n c, .bool true, .bool false] 45)) :=
    ((Below.refl _ w).alloc (Nat.le_refl _) _).alloc (by simp) _
  have hRd : RdC B (w.heap.size + 1) ws false ((w.alloc (.cells #[.int .u8 0, .bool false, .string ⟨#[]⟩, .string ⟨#[]⟩, .int .i64 0, .int .i64 0, .int .i64 0, .int .i64 0] 33)).alloc (.cells #[.slice A n c, .bool true, .bool false] 45)) :=
    ⟨by omega, A, n, c, hK, hr.below (hb.mono hB), hn, hc⟩
  have hG1 : Glob ((w.alloc (.cells #[.int .u8 0, .bool false, .string ⟨#[]⟩, .string ⟨#[]⟩, .int .i64 0, .int .i64 0, .int .i64 0, .int .i64 0] 33)).alloc (.cells #[.slice A n c, .bool true, .bool false] 45)) := hG.below hb hG.size
  have c10 := op_read B (w.heap.size + 1) w.heap.size ws _ hRd hD (by omega) hs hG1
  have HO := Lib.hid ho
  have C10 := Lib.hid c10
  have HB := Lib.hid hb
  clear hD hK hb hRd hG1 c10 hr hG ho
  go_enter Tryz.func11, Tryz.ntmps11
  go_wp2_with fail
  refine C10.out.mono ?_
  rintro e w1 ⟨rfl, h1, h2, h3⟩
  have hb1 := HB.out.trans (h3.below_of (B := w.heap.size) HB.out.size (by intro i hi; omega))
  obtain ⟨hBK, A', n', c', hk, hr', hn', hc'⟩ := h1
  have hl := hr'.1
  have HB1 := Lib.hid hb1
  have HL := Lib.hid hl
  have hsz : w.heap.size + 2 ≤ w1.heap.size := by have := h3.size; simp at this; omega
  have k0 : w1.cell? ⟨w.heap.size + 1, 0, none⟩ = some (.slice A' n' c') := hk.cell 0
  have k2 : w1.cell? ⟨w.heap.size + 1, 2, none⟩ = some (.bool (readOp ws).2.2) := hk.cell 2
  have hoe : (readOp ws).1 = o := congrArg Prod.fst HO.out
  have hok : (!(readOp ws).2.2 && (readOp ws).2.1.isEmpty) = ok := congrArg Prod.snd HO.out
  rw [hoe] at h2
  have HD := Lib.hid h2
  obtain ⟨d, df, nm, tx, m0, m1, m2, m3⟩ := o
  have o0 : w1.cell? ⟨w.heap.size, 0, none⟩ = some (.int .u8 d) := h2.cell 0
  have o1 : w1.cell? ⟨w.heap.size, 1, none⟩ = some (.bool df) := h2.cell 1
  have o2 : w1.cell? ⟨w.heap.size, 2, none⟩ = some (str nm) := h2.cell 2
  have o3 : w1.cell? ⟨w.heap.size, 3, none⟩ = some (str tx) := h2.cell 3
  have o4 : w1.cell? ⟨w.heap.size, 4, none⟩ = some (.int .i64 m0) := h2.cell 4
  have o5 : w1.cell? ⟨w.heap.size, 5, none⟩ = some (.int .i64 m1) := h2.cell 5
  have o6 : w1.cell? ⟨w.heap.size, 6, none⟩ = some (.int .i64 m2) := h2.cell 6
  have o7 : w1.cell? ⟨w.heap.size, 7, none⟩ = some (.int .i64 m3) := h2.cell 7
  have f0 : w1.frozen? ⟨w.heap.size, 0, none⟩ = false := h2.frozen 0
  have f1 : w1.frozen? ⟨w.heap.size, 1, none⟩ = false := h2.frozen 1
  have f2 : w1.frozen? ⟨w.heap.size, 2, none⟩ = false := h2.frozen 2
  have f3 : w1.frozen? ⟨w.heap.size, 3, none⟩ = false := h2.frozen 3
  have f4 : w1.frozen? ⟨w.heap.size, 4, none⟩ = false := h2.frozen 4
  have f5 : w1.frozen? ⟨w.heap.size, 5, none⟩ = false := h2.frozen 5
  have f6 : w1.frozen? ⟨w.heap.size, 6, none⟩ = false := h2.frozen 6
  have f7 : w1.frozen? ⟨w.heap.size, 7, none⟩ = false := h2.frozen 7
  clear h2 h3 hb1 hk hr' hl hBK hoe
  cases hbad : (readOp ws).2.2 with
  | true =>
    rw [hbad] at k2 hok
    have hok' : ok = false := by rw [← hok]; rfl
    subst hok'
    clear hbad hok
    go_wp2_with fail
    go_region
    go_wp2
    have hf := op_stored d df nm tx m0 m1 m2 m3 HD.out
    have hbf := below_stored d df nm tx m0 m1 m2 m3 (w := w) (w1 := w1) HB1.out
    unfold stored at hf
    refine bodyPost_ret_by (v := .tuple #[.agg (opCells ⟨d, df, nm, tx, m0, m1, m2, m3⟩), .bool false]) ?_ rfl ⟨rfl, hbf.drew⟩
    rw [results_cell_tmp Tryz.results11]
    generalize ((((((((w1.setCell ⟨w.heap.size, 0, none⟩ (.int .u8 d)).setCell ⟨w.heap.size, 1, none⟩ (.bool df)).setCell ⟨w.heap.size, 2, none⟩ (str nm)).setCell ⟨w.heap.size, 3, none⟩ (str tx)).setCell ⟨w.heap.size, 4, none⟩ (.int .i64 m0)).setCell ⟨w.heap.size, 5, none⟩ (.int .i64 m1)).setCell ⟨w.heap.size, 6, none⟩ (.int .i64 m2)).setCell ⟨w.heap.size, 7, none⟩ (.int .i64 m3)) = wf at hf ⊢
    have q0 : wf.cell? ⟨w.heap.size, 0, none⟩ = some (.int .u8 d) := hf.cell 0
    have q1 : wf.cell? ⟨w.heap.size, 1, none⟩ = some (.bool df) := hf.cell 1
    have q2 : wf.cell? ⟨w.heap.size, 2, none⟩ = some (str nm) := hf.cell 2
    have q3 : wf.cell? ⟨w.heap.size, 3, none⟩ = some (str tx) := hf.cell 3
    have q4 : wf.cell? ⟨w.heap.size, 4, none⟩ = some (.int .i64 m0) := hf.cell 4
    have q5 : wf.cell? ⟨w.heap.size, 5, none⟩ = some (.int .i64 m1) := hf.cell 5
    have q6 : wf.cell? ⟨w.heap.size, 6, none⟩ = some (.int .i64 m2) := hf.cell 6
    have q7 : wf.cell? ⟨w.heap.size, 7, none⟩ = some (.int .i64 m3) := hf.cell 7
    simp [go_sem, opCells, q0, q1, q2, q3, q4, q5, q6, q7]
  | false =>
    rw [hbad] at k2 hok
    simp only [Bool.not_false, Bool.true_and] at hok
    have hlen := HL.out
    have hnn : ((n' : Int) == 0) = ok := by
      rw [← hok]
      cases hw : (readOp ws).2.1 with
      | nil => rw [hw] at hlen; simp at hlen; subst hlen; rfl
      | cons a r => rw [hw] at hlen; simp at hlen; simp; omega
    clear hbad hok hlen
    go_wp2_with fail
    go_region
    go_wp2
    have hf := op_stored d df nm tx m0 m1 m2 m3 HD.out
    have hbf := below_stored d df nm tx m0 m1 m2 m3 (w := w) (w1 := w1) HB1.out
    unfold stored at hf
    refine bodyPost_ret_by (v := .tuple #[.agg (opCells ⟨d, df, nm, tx, m0, m1, m2, m3⟩), .bool ok]) ?_ rfl ⟨rfl, hbf.drew⟩
    rw [results_cell_tmp Tryz.results11]
    generalize ((((((((w1.setCell ⟨w.heap.size, 0, none⟩ (.int .u8 d)).setCell ⟨w.heap.size, 1, none⟩ (.bool df)).setCell ⟨w.heap.size, 2, none⟩ (str nm)).setCell ⟨w.heap.size, 3, none⟩ (str tx)).setCell ⟨w.heap.size, 4, none⟩ (.int .i64 m0)).setCell ⟨w.heap.size, 5, none⟩ (.int .i64 m1)).setCell ⟨w.heap.size, 6, none⟩ (.int .i64 m2)).setCell ⟨w.heap.size, 7, none⟩ (.int .i64 m3)) = wf at hf ⊢
    have q0 : wf.cell? ⟨w.heap.size, 0, none⟩ = some (.int .u8 d) := hf.cell 0
    have q1 : wf.cell? ⟨w.heap.size, 1, none⟩ = some (.bool df) := hf.cell 1
    have q2 : wf.cell? ⟨w.heap.size, 2, none⟩ = some (str nm) := hf.cell 2
    have q3 : wf.cell? ⟨w.heap.size, 3, none⟩ = some (str tx) := hf.cell 3
    have q4 : wf.cell? ⟨w.heap.size, 4, none⟩ = some (.int .i64 m0) := hf.cell 4
    have q5 : wf.cell? ⟨w.heap.size, 5, none⟩ = some (.int .i64 m1) := hf.cell 5
    have q6 : wf.cell? ⟨w.heap.size, 6, none⟩ = some (.int .i64 m2) := hf.cell 6
    have q7 : wf.cell? ⟨w.heap.size, 7, none⟩ = some (.int .i64 m3) := hf.cell 7
    simp [go_sem, opCells, q0, q1, q2, q3, q4, q5, q6, q7]
end Go.Proofs.YtadncponjpdcmaaGreatDoor

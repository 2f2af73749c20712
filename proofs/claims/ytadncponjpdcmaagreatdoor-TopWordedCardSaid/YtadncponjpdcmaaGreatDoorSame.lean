/-
  lines.Same, slices.Equal of ops: walked, where the two are the same.
-/
import Derived.Test.YtadncponjpdcmaaGreatDoorPOp
import Derived.BigQuiet
namespace Go.Proofs.YtadncponjpdcmaaGreatDoor
open Go.RowKit

set_option maxHeartbeats 1000000 in
set_option maxRecDepth 100000 in
theorem Same_any (o : OpL) (w : World) :
    Calls Tryz.prog 16 #[.agg (opCells o), .agg (opCells o)] w fun e w' => e = .returned (.bool true) ∧ Below w.heap.size w w' := by
  obtain ⟨d, df, nm, tx, m0, m1, m2, m3⟩ := o
  have hop : opCells ⟨d, df, nm, tx, m0, m1, m2, m3⟩ = #[.int .u8 d, .bool df, str nm, str tx, .int .i64 m0, .int .i64 m1, .int .i64 m2, .int .i64 m3] := rfl
  rw [hop]
  clear hop
  go_enter Tryz.func16, Tryz.ntmps16
  go_wp2_with fail
  go_ret
  exact ⟨rfl, ((Below.refl _ w).alloc (Nat.le_refl _) _).alloc (by simp) _⟩

/-- The cells of ops that stand one after another. -/
def opsCells (os : List OpL) : List Value := os.flatMap fun o => (opCells o).toList

theorem opsCells_length : ∀ os : List OpL, (opsCells os).length = os.length * 8
  | [] => rfl
  | o :: os => by
    have ih := opsCells_length os
    unfold opsCells at ih ⊢
    rw [List.flatMap_cons, List.length_append, ih]
    simp [opCells]; omega

theorem opsCells_append (a b : List OpL) : opsCells (a ++ b) = opsCells a ++ opsCells b := by simp [opsCells]

theorem opsCells_at : ∀ (os : List OpL) (k t : Nat) (hk : k < os.length) (ht : t < 8), (opsCells os)[k * 8 + t]? = (opCells os[k])[t]?
  | o :: os, 0, t, hk, ht => by
    have e : opsCells (o :: os) = (opCells o).toList ++ opsCells os := by simp [opsCells]
    rw [e, List.getElem?_append_left (by simp [opCells]; omega)]
    simp
  | o :: os, k + 1, t, hk, ht => by
    have e : opsCells (o :: os) = (opCells o).toList ++ opsCells os := by simp [opsCells]
    have hl : (opCells o).toList.length = 8 := rfl
    rw [e, List.getElem?_append_right (by rw [hl]; omega), hl, show (k + 1) * 8 + t - 8 = k * 8 + t by omega]
    simpa using opsCells_at os k t (by simpa using hk) ht

theorem below_drewN {B : Nat} {w w' : World} (h : Below B w w') (n : Nat) : Below B w (w'.drewN n) := ⟨h.os, h.tape, h.output, h.size, h.block⟩
theorem add_zero' (a : Addr) : a.add 0 = a := by unfold Addr.add; simp

set_option maxHeartbeats 4000000 in
set_option maxRecDepth 100000 in
theorem Equal_any (B C : Nat) (A A' : Option Addr) (c c' : Nat) (os : List OpL) (w : World) (h : Reads w B 8 A os.length (opsCells os)) (h' : Reads w C 8 A' os.length (opsCells os)) (hl : os.length ≤ 1000000) :
    Calls Tryz.prog 24 #[.slice A os.length c, .slice A' os.length c'] w fun e w' => e = .returned (.bool true) ∧ Below w.heap.size w w' := by
  have H := Lib.hid h
  have H' := Lib.hid h'
  clear h h'
  go_enter Tryz.func24, Tryz.ntmps24
  go_wp2_with fail
  go_loopw [5, 13]
    (fun u5 u13 wx => ∃ k : Nat, k ≤ os.length ∧ u13 = .int .i64 k ∧ Below w.heap.size w wx ∧ ∀ p, wx.cell? p = w.cell? p)
    (fun _ u13 _ => (os.length - intOf u13).toNat)
  case atStart => exact ⟨0, by omega, rfl, Below.refl _ _, fun _ => rfl⟩
  case round =>
    obtain ⟨k, hk, rfl, hbw, hsame⟩ := hrel
    by_cases hlt : k < os.length
    · obtain ⟨ad, rfl, _, hc⟩ := H.out.2 (by omega)
      obtain ⟨ad', rfl, _, hc'⟩ := H'.out.2 (by omega)
      have hcell : ∀ t, t < 8 → ∀ u, (opCells os[k])[t]? = some u → wr.cell? ((ad.add (k * 8)).add t) = some u := fun t ht u hu => by
        rw [add_of_add, hsame]; exact hc _ u (by rw [opsCells_at os k t hlt ht]; exact hu)
      have hcell' : ∀ t, t < 8 → ∀ u, (opCells os[k])[t]? = some u → wr.cell? ((ad'.add (k * 8)).add t) = some u := fun t ht u hu => by
        rw [add_of_add, hsame]; exact hc' _ u (by rw [opsCells_at os k t hlt ht]; exact hu)
      obtain ⟨p, hp⟩ : ∃ p, p = ad.add (k * 8) := ⟨_, rfl⟩
      obtain ⟨p', hp'⟩ : ∃ p', p' = ad'.add (k * 8) := ⟨_, rfl⟩
      rw [← hp] at hcell
      rw [← hp'] at hcell'
      generalize os[k] = o at hcell hcell'
      obtain ⟨d, df, nm, tx, m0, m1, m2, m3⟩ := o
      have x0 : wr.cell? (p.add 0) = some (.int .u8 d) := hcell 0 (by omega) _ rfl
      have x1 : wr.cell? ⟨p.block, p.off + 1, none⟩ = some (.bool df) := hcell 1 (by omega) _ rfl
      have x2 : wr.cell? ⟨p.block, p.off + 2, none⟩ = some (str nm) := hcell 2 (by omega) _ rfl
      have x3 : wr.cell? ⟨p.block, p.off + 3, none⟩ = some (str tx) := hcell 3 (by omega) _ rfl
      have x4 : wr.cell? ⟨p.block, p.off + 4, none⟩ = some (.int .i64 m0) := hcell 4 (by omega) _ rfl
      have x5 : wr.cell? ⟨p.block, p.off + 5, none⟩ = some (.int .i64 m1) := hcell 5 (by omega) _ rfl
      have x6 : wr.cell? ⟨p.block, p.off + 6, none⟩ = some (.int .i64 m2) := hcell 6 (by omega) _ rfl
      have x7 : wr.cell? ⟨p.block, p.off + 7, none⟩ = some (.int .i64 m3) := hcell 7 (by omega) _ rfl
      have y0 : wr.cell? (p'.add 0) = some (.int .u8 d) := hcell' 0 (by omega) _ rfl
      have y1 : wr.cell? ⟨p'.block, p'.off + 1, none⟩ = some (.bool df) := hcell' 1 (by omega) _ rfl
      have y2 : wr.cell? ⟨p'.block, p'.off + 2, none⟩ = some (str nm) := hcell' 2 (by omega) _ rfl
      have y3 : wr.cell? ⟨p'.block, p'.off + 3, none⟩ = some (str tx) := hcell' 3 (by omega) _ rfl
      have y4 : wr.cell? ⟨p'.block, p'.off + 4, none⟩ = some (.int .i64 m0) := hcell' 4 (by omega) _ rfl
      have y5 : wr.cell? ⟨p'.block, p'.off + 5, none⟩ = some (.int .i64 m1) := hcell' 5 (by omega) _ rfl
      have y6 : wr.cell? ⟨p'.block, p'.off + 6, none⟩ = some (.int .i64 m2) := hcell' 6 (by omega) _ rfl
      have y7 : wr.cell? ⟨p'.block, p'.off + 7, none⟩ = some (.int .i64 m3) := hcell' 7 (by omega) _ rfl
      rw [add_zero'] at x0 y0
      clear hc hc' hcell hcell'
      have HP := Lib.hid hp
      have HBW := Lib.hid hbw
      have HS := Lib.hid hsame
      clear hbw hsame
      have HP' := Lib.hid hp'
      rw [hp] at x0 x1 x2 x3 x4 x5 x6 x7
      rw [hp'] at y0 y1 y2 y3 y4 y5 y6 y7
      clear hp hp'
      go_wp2_with fail
      go_quiet (fail)
      go_wp2
      go_roundw
      case rel => exact ⟨k + 1, by omega, by go_num, below_drewN HBW.out _, fun p => HS.out p⟩
      case measure => simp [intOf]; omega
    · obtain rfl : k = os.length := by omega
      go_wp2_with fail
      go_ret
      exact ⟨rfl, hbw⟩
end Go.Proofs.YtadncponjpdcmaaGreatDoor

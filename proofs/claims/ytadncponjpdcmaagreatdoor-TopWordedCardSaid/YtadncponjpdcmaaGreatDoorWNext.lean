/-
  The coder's next word: walked.
-/
import Derived.Test.YtadncponjpdcmaaGreatDoorNames
namespace Go.Proofs.YtadncponjpdcmaaGreatDoor
open Go.RowKit

set_option maxHeartbeats 400000 in
theorem next_bad0 (K : Nat) (v : Value) (rd : Bool) (w : World) (h : Blk w K 45 #[v, .bool rd, .bool true]) :
    Calls Tryz.prog 55 #[.pointer (some ⟨K, 0, none⟩)] w fun e w' => e = .returned (str []) ∧ w.setCell ⟨K, 2, none⟩ (.bool true) = w' := by
  have h2 : w.cell? ⟨K, 2, none⟩ = some (.bool true) := h.cell 2
  have f2 := h.frozen 2
  have g2 : (w.setCell ⟨K, 2, none⟩ (.bool true)).cell? ⟨K, 2, none⟩ = some (.bool true) := (h.set_ 2 _).cell 2
  clear h
  go_enter Tryz.func55, Tryz.ntmps55
  go_wp2
  go_ret
  exact ⟨rfl, rfl⟩

set_option maxHeartbeats 400000 in
theorem next_none0 (K : Nat) (A : Option Addr) (c : Nat) (rd : Bool) (w : World) (h : Blk w K 45 #[.slice A 0 c, .bool rd, .bool false]) :
    Calls Tryz.prog 55 #[.pointer (some ⟨K, 0, none⟩)] w fun e w' => e = .returned (str []) ∧ w.setCell ⟨K, 2, none⟩ (.bool true) = w' := by
  have h2 : w.cell? ⟨K, 2, none⟩ = some (.bool false) := h.cell 2
  have h0 : w.cell? ⟨K, 0, none⟩ = some (.slice A 0 c) := h.cell 0
  have f2 := h.frozen 2
  have g2 : (w.setCell ⟨K, 2, none⟩ (.bool true)).cell? ⟨K, 2, none⟩ = some (.bool true) := (h.set_ 2 _).cell 2
  clear h
  go_enter Tryz.func55, Tryz.ntmps55
  go_wp2
  go_ret
  exact ⟨rfl, rfl⟩

set_option maxHeartbeats 400000 in
theorem next_some0 (K : Nat) (ad : Addr) (n c : Nat) (s : Bs) (rd : Bool) (w : World) (h : Blk w K 45 #[.slice (some ad) (n + 1) c, .bool rd, .bool false]) (hc : n + 1 ≤ c) (hm : c ≤ maxLen)
    (hne : ad.block ≠ K) (hs : w.cell? ad = some (str s)) :
    Calls Tryz.prog 55 #[.pointer (some ⟨K, 0, none⟩)] w fun e w' => e = .returned (str s) ∧ (w.setCell ⟨K, 2, none⟩ (.bool false)).setCell ⟨K, 0, none⟩ (.slice (if c = 1 then some ad else some (ad.add 1)) n (c - 1)) = w' := by
  unfold maxLen at hm
  have h2 : w.cell? ⟨K, 2, none⟩ = some (.bool false) := h.cell 2
  have h0 : w.cell? ⟨K, 0, none⟩ = some (.slice (some ad) (n + 1) c) := h.cell 0
  have f2 := h.frozen 2
  have k := h.set_ 2 (.bool false)
  have g0 : (w.setCell ⟨K, 2, none⟩ (.bool false)).cell? ⟨K, 0, none⟩ = some (.slice (some ad) (n + 1) c) := k.cell 0
  have g2 : (w.setCell ⟨K, 2, none⟩ (.bool false)).cell? ⟨K, 2, none⟩ = some (.bool false) := k.cell 2
  have gf : (w.setCell ⟨K, 2, none⟩ (.bool false)).frozen? ⟨K, 0, none⟩ = false := k.frozen 0
  have gs : (w.setCell ⟨K, 2, none⟩ (.bool false)).cell? ad = some (str s) := by rw [← hs]; exact World.cell?_setCell_other w _ _ _ (fun e => hne (by rw [← e]))
  clear h k
  go_enter Tryz.func55, Tryz.ntmps55
  go_wp2
  all_goals (go_ret; exact ⟨rfl, rfl⟩)

/-- A coder that reads: the words that are left lie below block B. -/
def RdC (B K : Nat) (ws : List Bs) (bad : Bool) (w : World) : Prop :=
  B ≤ K ∧ ∃ A n c, Blk w K 45 #[.slice A n c, .bool true, .bool bad] ∧ Reads w B 1 A n (ws.map str) ∧ n ≤ c ∧ c ≤ maxLen

theorem Keep.blkset {S : Nat → Prop} {w w' : World} (h : Keep S w w') {K i : Nat} (hS : ¬ S K) (u : Value) : Keep S w (w'.setCell ⟨K, i, none⟩ u) := h.setCell (p := ⟨K, i, none⟩) hS u

theorem next_no (B K : Nat) (ws : List Bs) (bad : Bool) (w : World) (h : RdC B K ws bad w) (hb : bad = true ∨ ws = []) :
    Calls Tryz.prog 55 #[.pointer (some ⟨K, 0, none⟩)] w fun e w' => e = .returned (str []) ∧ RdC B K ws true w' ∧ Keep (fun i => i ≠ K) w w' := by
  obtain ⟨hBK, A, n, c, hk, hr, hn, hc⟩ := h
  have hpost : RdC B K ws true (w.setCell ⟨K, 2, none⟩ (.bool true)) ∧ Keep (fun i => i ≠ K) w (w.setCell ⟨K, 2, none⟩ (.bool true)) :=
    ⟨⟨hBK, A, n, c, hk.set_ 2 _, hr.setCell (p := ⟨K, 2, none⟩) hBK _, hn, hc⟩, (Keep.refl _ w).blkset (by simp) _⟩
  cases bad with
  | true =>
    refine (next_bad0 K _ true w hk).mono ?_
    rintro e w' ⟨rfl, rfl⟩
    exact ⟨rfl, hpost⟩
  | false =>
    have hws : ws = [] := by rcases hb with h | h; cases h; exact h
    subst hws
    have hn0 : n = 0 := by have := hr.1; simpa using this.symm
    subst hn0
    refine (next_none0 K A c true w hk).mono ?_
    rintro e w' ⟨rfl, rfl⟩
    exact ⟨rfl, hpost⟩

theorem next_yes (B K : Nat) (s : Bs) (ws : List Bs) (w : World) (h : RdC B K (s :: ws) false w) :
    Calls Tryz.prog 55 #[.pointer (some ⟨K, 0, none⟩)] w fun e w' => e = .returned (str s) ∧ RdC B K ws false w' ∧ Keep (fun i => i ≠ K) w w' := by
  obtain ⟨hBK, A, n, c, hk, hr, hn, hc⟩ := h
  have hl := hr.1
  simp at hl
  obtain ⟨n, rfl⟩ : ∃ m, n = m + 1 := ⟨ws.length, by omega⟩
  obtain ⟨ad, u, rfl, hadb, hu, hcell⟩ := hr.at_ (k := 0) (by omega)
  have hu' : u = str s := by simpa using hu.symm
  subst hu'
  have hadd0 : ad.add 0 = ad := by simp [Addr.add]
  rw [hadd0] at hcell
  have hcut := hr.cut (k := 1) (cap := c) (by omega) hn
  refine (next_some0 K ad n c s true w hk hn hc (by omega) hcell).mono ?_
  rintro e w' ⟨rfl, rfl⟩
  refine ⟨rfl, ⟨hBK, (if c = 1 then some ad else some (ad.add 1)), n, c - 1, ?_, ?_, by omega, by omega⟩, ((Keep.refl _ w).blkset (by simp) _).blkset (by simp) _⟩
  · exact (hk.set_ 2 _).set_ 0 _
  · have e1 : (if c = 1 then some ad else Option.map (fun x => x.add (1 * 1)) (some ad)) = (if c = 1 then some ad else some (ad.add 1)) := by simp
    rw [e1] at hcut
    simp only [Nat.add_sub_cancel, Nat.mul_one, List.map_cons, List.drop_succ_cons, List.drop_zero] at hcut
    exact (hcut.setCell (p := ⟨K, 2, none⟩) hBK _).setCell (p := ⟨K, 0, none⟩) hBK _

end Go.Proofs.YtadncponjpdcmaaGreatDoor

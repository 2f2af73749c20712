/-
  lines.one, at its four types: a word is written, or read.
-/
import Derived.Test.YtadncponjpdcmaaGreatDoorWNext
namespace Go.Proofs.YtadncponjpdcmaaGreatDoor
open Go.RowKit

theorem info9 : (Tryz.prog.info? 9).map (fun i => (i.zero, i.size, i.bytes)) = some (some (.string ⟨#[]⟩), 1, 16) := by kernel_rfl

/-- A coder that writes: the words so far lie in a row from base on. -/
def WrC (base K : Nat) (ws : List Bs) (bad : Bool) (w : World) : Prop :=
  K < base ∧ base ≤ w.heap.size ∧ ∃ v, Blk w K 45 #[v, .bool false, .bool bad] ∧ w.ownsRow base 9 1 v ws.length (ws.map str)

/-- What stays beside a coder that writes. -/
abbrev KW (base K : Nat) : World → World → Prop := Keep (fun i => i < base ∧ i ≠ K)

def longB (l : Bs) : Bool := decide (131072 < l.length)

/-- One round of writing, whatever is written. -/
def WPost (base K : Nat) (ws : List Bs) (bad : Bool) (W : Bs) (w : World) (e : Ending) (w' : World) : Prop :=
  e = .returned (.tuple #[]) ∧ WrC base K (ws ++ [W]) (bad || longB W) w' ∧ KW base K w w' ∧ Lib.OthersKept 9 (some K) w w'

theorem own_kind {w : World} {base : Nat} {e : TypeId} {size n : Nat} {v : Value} {xs : List Value} (h : w.ownsRow base e size v n xs) : ∀ g, v.ownBlock = some g → ∃ c fz, w.heap[g]? = some (.cells c e fz) := by
  intro g hg
  rcases h.2 with ⟨rfl, _⟩ | ⟨g', cap, cur, rfl, _, hh, _⟩
  · simp [Value.ownBlock] at hg
  · simp [Value.ownBlock] at hg
    subst hg
    exact ⟨cur, _, hh⟩
theorem others_below {e : TypeId} {b : Option Nat} {w w' : World} (h : Below w.heap.size w w') : Lib.OthersKept e b w w' := fun k o hk _ _ => by
  rw [h.block k (Array.getElem?_eq_some_iff.1 hk).1]; exact hk

theorem w_done {base K g cap : Nat} {ws : List Bs} {W : Bs} {bad : Bool} {w w2 : World} (hK : K < base) (hbase : base ≤ w.heap.size)
    (hb3 : Blk (w2.setCell ⟨K, 0, none⟩ (.slice (some ⟨g, 0, none⟩) (ws.length + 1) cap)) K 45 (#[Value.slice (some ⟨g, 0, none⟩) (ws.length + 1) cap, .bool false, .bool bad]))
    (hown : w2.ownsRow base 9 1 (.slice (some ⟨g, 0, none⟩) (ws.length + 1) cap) (ws.length + 1) (ws.map str ++ [str W])) (hne : (Value.slice (some ⟨g, 0, none⟩) (ws.length + 1) cap).ownBlock ≠ some K)
    (hk : KW base K w w2) (ho : Lib.OthersKept 9 (some K) w w2) (b : Bool) :
    WrC base K (ws ++ [W]) b ((w2.setCell ⟨K, 0, none⟩ (.slice (some ⟨g, 0, none⟩) (ws.length + 1) cap)).setCell ⟨K, 2, none⟩ (.bool b)) ∧
      KW base K w ((w2.setCell ⟨K, 0, none⟩ (.slice (some ⟨g, 0, none⟩) (ws.length + 1) cap)).setCell ⟨K, 2, none⟩ (.bool b)) ∧
      Lib.OthersKept 9 (some K) w ((w2.setCell ⟨K, 0, none⟩ (.slice (some ⟨g, 0, none⟩) (ws.length + 1) cap)).setCell ⟨K, 2, none⟩ (.bool b)) := by
  have hset : ∀ (w : World) i u, w.ownsRow base 9 1 (.slice (some ⟨g, 0, none⟩) (ws.length + 1) cap) (ws.length + 1) (ws.map str ++ [str W]) → (w.setCell ⟨K, i, none⟩ u).ownsRow base 9 1 (.slice (some ⟨g, 0, none⟩) (ws.length + 1) cap) (ws.length + 1) (ws.map str ++ [str W]) :=
    fun w i u h => ownsRow_setCell_below h (a := ⟨K, i, none⟩) hK u
  have hsz := hk.size
  refine ⟨⟨hK, by simp [World.setCell]; omega, _, hb3.set_ 2 _, ?_⟩, (hk.blkset (by simp) _).blkset (by simp) _, (ho.setCell ⟨K, 0, none⟩ rfl _).setCell ⟨K, 2, none⟩ rfl _⟩
  have e : (ws ++ [W]).length = ws.length + 1 := by simp
  rw [e, List.map_append]
  exact hset _ _ _ (hset _ _ _ hown)

theorem longB_int (W : Bs) : decide ((131072 : Int) < (W.length : Int)) = longB W := by
  unfold longB
  rw [decide_eq_decide]
  omega

theorem below_same {f : Nat} {args : Array Value} {w : World} {v : Value} (h : Calls Tryz.prog f args w fun e w' => e = .returned v ∧ w = w') :
    Calls Tryz.prog f args w fun e w' => e = .returned v ∧ Below w.heap.size w w' :=
  h.mono fun e w' ⟨he, hw⟩ => ⟨he, by subst hw; exact Below.refl _ _⟩

/-- strconv.Itoa -/
theorem Itoa_any (n : Int) (h0 : -9223372036854775808 ≤ n) (h1 : n ≤ 9223372036854775807) (w : World) (hG : Glob w) :
    Calls Tryz.prog 9 #[.int .i64 n] w fun e w' => e = .returned (str (Lib.itoa n)) ∧ Below w.heap.size w w' := by
  refine (Tryz.strconv_Itoa n h0 h1 w hG.pow).mono ?_
  rintro e w' ⟨rfl, k, os, rfl⟩
  exact ⟨rfl, rfl, rfl, rfl, by simp [«Sort».grow], fun i hi => by simp [«Sort».grow, Array.getElem?_append, hi]⟩

theorem nDigits_le : ∀ (k u : Nat), u < 10 ^ (k + 1) → Lib.nDigits u ≤ k + 1
  | 0, u, h => by rw [Lib.nDigits_small (by simpa using h)]; exact Nat.le_refl _
  | k + 1, u, h => by
    by_cases h10 : u < 10
    · rw [Lib.nDigits_small h10]; omega
    · rw [Lib.nDigits_big h10]
      have := nDigits_le k (u / 10) (by rw [Nat.pow_succ] at h; omega)
      omega

theorem itoa_length (n : Int) (h0 : -9223372036854775808 ≤ n) (h1 : n ≤ 9223372036854775807) : (Lib.itoa n).length ≤ 21 := by
  unfold Lib.itoa
  split
  · rw [List.length_cons, Lib.decDigits_length]
    have := nDigits_le 19 n.natAbs (by omega)
    omega
  · rw [Lib.decDigits_length]
    have := nDigits_le 19 n.toNat (by omega)
    omega
theorem itoa_short (n : Int) (h0 : -9223372036854775808 ≤ n) (h1 : n ≤ 9223372036854775807) : (Lib.itoa n).length ≤ 4000000000 := by
  have := itoa_length n h0 h1; omega

theorem doW_short (d : Nat) : (doW d).length ≤ 4000000000 := by
  unfold doW nameL
  match d with
  | 0 => decide
  | 1 => decide
  | 2 => decide
  | 3 => decide
  | 4 => decide
  | 5 => decide
  | 6 => decide
  | 7 => decide
  | n + 8 => exact Nat.zero_le _

theorem numR_bounds (w : Bs) : -9223372036854775808 ≤ numR w ∧ numR w ≤ 9223372036854775807 := by
  unfold numR Lib.atoiSat
  cases h : Lib.atoiAll w with
  | ok v =>
    simp only
    unfold Lib.atoiAll at h
    cases w with
    | nil => simp at h
    | cons c r =>
      simp only at h
      split at h
      · cases h
      · cases h
      · rename_i u hu
        have hlt := Lib.parseMag_lt hu
        split at h
        · cases h
        · split at h
          · cases h
          · injection h with h
            subst h
            split <;> omega
  | range => simp only; split <;> omega
  | _ => simp only; omega

theorem flat_ge (enc : UInt8 → Bs) (he : ∀ b, 1 ≤ (enc b).length) : ∀ s : Bs, s.length ≤ (s.flatMap enc).length := by
  intro s
  induction s with
  | nil => simp
  | cons b s ih => rw [List.flatMap_cons, List.length_append, List.length_cons]; have := he b; omega

theorem word_ge (s : Bs) : s.length ≤ (wordL s).length := by
  unfold wordL
  by_cases h0 : s = []
  · rw [if_pos h0, h0]; simp
  rw [if_neg h0]
  by_cases h3 : s = [45]
  · rw [if_pos h3, h3]; simp
  rw [if_neg h3]
  split
  · exact flat_ge enc1 (fun b => by unfold enc1; split <;> simp [hexedL]) s
  · exact flat_ge hexedL (fun b => by simp [hexedL]) s

theorem textR_length (w : Bs) : (textR w).length ≤ w.length := by
  unfold textR
  cases h : textL w with
  | none => simp
  | some s =>
    have : wordL s = w := by
      unfold textL at h
      cases hr : rawText w with
      | none => rw [hr] at h; cases h
      | some t =>
        rw [hr] at h
        simp only at h
        by_cases hw : wordL (if w = [45] then [] else t) = w
        · rw [if_pos hw] at h
          injection h with h
          rw [← h]; exact hw
        · rw [if_neg hw] at h; cases h
    simp only [Option.getD_some]
    rw [← this]
    exact word_ge s


theorem RdC.below {B K : Nat} {ws : List Bs} {bad : Bool} {w w' : World} (h : RdC B K ws bad w) (hb : Below w.heap.size w w') : RdC B K ws bad w' := by
  obtain ⟨hBK, A, n, c, hk, hr, hn, hc⟩ := h
  exact ⟨hBK, A, n, c, hk.below hb hk.lt, hr.below (hb.mono (by have := hk.lt; omega)), hn, hc⟩
theorem RdC.kept {B K : Nat} {ws : List Bs} {bad : Bool} {w w' : World} {D : Nat} (h : RdC B K ws bad w) (hk : Keep (fun i => i ≠ D) w w') (hBD : B ≤ D) (hKD : K ≠ D) : RdC B K ws bad w' := by
  obtain ⟨hBK, A, n, c, h1, hr, hn, hc⟩ := h
  exact ⟨hBK, A, n, c, h1.kept hk hKD, hr.kept (by have := h1.lt; omega) hk (by intro i hi; omega), hn, hc⟩
theorem RdC.cells {B K : Nat} {ws : List Bs} {bad : Bool} {w : World} (h : RdC B K ws bad w) : w.cell? ⟨K, 1, none⟩ = some (.bool true) ∧ w.cell? ⟨K, 2, none⟩ = some (.bool bad) ∧ w.frozen? ⟨K, 2, none⟩ = false := by
  obtain ⟨hBK, A, n, c, hk, hr, hn, hc⟩ := h
  exact ⟨hk.cell 1, hk.cell 2, hk.frozen 2⟩
theorem RdC.setbad {B K : Nat} {ws : List Bs} {bad : Bool} {w : World} (h : RdC B K ws bad w) (b : Bool) : RdC B K ws b (w.setCell ⟨K, 2, none⟩ (.bool b)) := by
  obtain ⟨hBK, A, n, c, hk, hr, hn, hc⟩ := h
  exact ⟨hBK, A, n, c, hk.set_ 2 _, hr.setCell (p := ⟨K, 2, none⟩) hBK _, hn, hc⟩
theorem Names.below {V N : Nat} {w w' : World} (h : Names V N w) (hb : Below w.heap.size w w') : Names V N w' := ⟨h.1.below hb h.1.lt, h.2.below hb h.2.lt⟩

/-- One round of reading. -/
def RPost (B K D : Nat) (ws : List Bs) (cs : Array Value) (bad : Bool) (w : World) (e : Ending) (w' : World) : Prop :=
  e = .returned (.tuple #[]) ∧ RdC B K ws bad w' ∧ Blk w' D 33 cs ∧ Keep (fun i => i ≠ K ∧ i ≠ D) w w'

theorem r_done {B K D : Nat} {ws : List Bs} {cs : Array Value} {b0 : Bool} {w w5 : World} (hDK : D ≠ K) (hr : RdC B K ws b0 (w5.setCell ⟨K, 2, none⟩ (.bool b0))) (hD : Blk w5 D 33 cs)
    (hk : Keep (fun i => i ≠ K ∧ i ≠ D) w w5) (b : Bool) :
    RPost B K D ws cs b w (.returned (.tuple #[])) ((w5.setCell ⟨K, 2, none⟩ (.bool b0)).setCell ⟨K, 2, none⟩ (.bool b)) :=
  ⟨rfl, hr.setbad b, (hD.far (p := ⟨K, 2, none⟩) hDK _).far (p := ⟨K, 2, none⟩) hDK _, (hk.blkset (by simp) _).blkset (by simp) _⟩

end Go.Proofs.YtadncponjpdcmaaGreatDoor

/-
  The closures over the names of an op's kinds.
-/
import Derived.Test.YtadncponjpdcmaaGreatDoorReads
namespace Go.Proofs.YtadncponjpdcmaaGreatDoor
open Go.RowKit

/-- The variable 'names' in block V, its row in block N. -/
def Names (V N : Nat) (w : World) : Prop := Blk w V 29 #[.slice (some ⟨N, 0, none⟩) 8 8] ∧ Blk w N 9 (nameL.map str).toArray

theorem Names.kept {V N : Nat} {w w' : World} {S : Nat → Prop} (h : Names V N w) (k : Keep S w w') (h1 : S V) (h2 : S N) : Names V N w' := ⟨h.1.kept k h1, h.2.kept k h2⟩

theorem names_at (d : Nat) (h : d < 8) : (nameL.map str).toArray[d]? = some (str (doW d)) := by
  match d, h with
  | 0, _ => rfl
  | 1, _ => rfl
  | 2, _ => rfl
  | 3, _ => rfl
  | 4, _ => rfl
  | 5, _ => rfl
  | 6, _ => rfl
  | 7, _ => rfl

set_option maxHeartbeats 1000000 in
set_option maxRecDepth 100000 in
theorem doW_any (V N d : Nat) (w : World) (hd : d < 256) (hN : Names V N w) : Calls Tryz.prog 29 #[.int .u8 d, .pointer (some ⟨V, 0, none⟩)] w fun e w' => e = .returned (str (doW d)) ∧ w = w' := by
  have c1 : w.cell? ⟨V, 0, none⟩ = some (.slice (some ⟨N, 0, none⟩) 8 8) := hN.1.cell 0
  by_cases h : d < 8
  · have c2 : w.cell? ⟨N, d, none⟩ = some (str (doW d)) := (hN.2.cell d).trans (names_at d h)
    have hz : ¬ ((8 : Int) ≤ (d : Int)) := by omega
    clear hN
    generalize doW d = x at c2 ⊢
    go_enter Tryz.func29, Tryz.ntmps29
    go_wp2
    go_ret
    exact ⟨rfl, rfl⟩
  · have hx : doW d = [] := by unfold doW; rw [List.getD, List.getElem?_eq_none (by show 8 ≤ d; omega)]; rfl
    rw [hx]
    have hz : (8 : Int) ≤ (d : Int) := by omega
    clear hN hx
    go_enter Tryz.func29, Tryz.ntmps29
    go_wp2
    go_ret
    exact ⟨rfl, rfl⟩

theorem idx_gen (s : ByteArray) : ∀ (l : List Bs) (i : Nat), Lib.idxFromS (l.map fun l => (⟨l.toArray⟩ : ByteArray)) s i = if l.idxOf s.data.toList < l.length then ((i + l.idxOf s.data.toList : Nat) : Int) else -1
  | [], i => by simp [Lib.idxFromS]
  | a :: l, i => by
    rw [List.map_cons, Lib.idxFromS, idx_gen s l (i + 1), List.idxOf_cons]
    by_cases h : (⟨a.toArray⟩ : ByteArray) = s
    · have e : a = s.data.toList := by rw [← h]
      rw [if_pos h, e]
      simp
    · have e : ¬ a = s.data.toList := fun e => h (by rw [e])
      have e' : (a == s.data.toList) = false := by simpa using e
      rw [if_neg h, e']
      simp only [cond_false, List.length_cons]
      by_cases hl : l.idxOf s.data.toList < l.length
      · rw [if_pos hl, if_pos (by omega)]; omega
      · rw [if_neg hl, if_neg (by omega)]

theorem idx_names (s : ByteArray) : max 0 (Lib.idxOfS ((nameL.map fun l => (⟨l.toArray⟩ : ByteArray)).take 8) s) = (doR s.data.toList : Int) := by
  have h : (nameL.map fun l => (⟨l.toArray⟩ : ByteArray)).take 8 = nameL.map fun l => (⟨l.toArray⟩ : ByteArray) := rfl
  have hl : nameL.length = 8 := rfl
  rw [h, Lib.idxOfS, idx_gen s nameL 0]
  unfold doR
  have hle := List.idxOf_le_length (a := s.data.toList) (l := nameL)
  by_cases h8 : nameL.idxOf s.data.toList < nameL.length
  · rw [if_pos h8]; omega
  · rw [if_neg h8]; omega

set_option maxHeartbeats 1000000 in
set_option maxRecDepth 100000 in
theorem doR_any (V N : Nat) (s : ByteArray) (w : World) (hN : Names V N w) : Calls Tryz.prog 30 #[.string s, .pointer (some ⟨V, 0, none⟩)] w fun e w' => e = .returned (.int .u8 (doR s.data.toList)) ∧ w = w' := by
  have c1 : w.cell? ⟨V, 0, none⟩ = some (.slice (some ⟨N, 0, none⟩) 8 8) := hN.1.cell 0
  have cs := Tryz.slices_Index_string N 0 8 8 (nameL.map fun l => (⟨l.toArray⟩ : ByteArray)) s w (by decide) (by decide) (by
    intro j hj
    have hj' : j < 8 := hj
    rw [Nat.zero_add, hN.2.cell j, names_at j hj']
    match j, hj' with
    | 0, _ => rfl
    | 1, _ => rfl
    | 2, _ => rfl
    | 3, _ => rfl
    | 4, _ => rfl
    | 5, _ => rfl
    | 6, _ => rfl
    | 7, _ => rfl)
  have hi : max 0 (Lib.idxOfS ((nameL.map fun l => (⟨l.toArray⟩ : ByteArray)).take 8) s) = (doR s.data.toList : Int) := idx_names s
  have hlt : doR s.data.toList < 8 := by unfold doR; omega
  generalize doR s.data.toList = x at hi hlt ⊢
  generalize Lib.idxOfS ((nameL.map fun l => (⟨l.toArray⟩ : ByteArray)).take 8) s = y at hi cs
  have CS := Lib.hid cs
  have hu : IntKind.u8.wrap (x : Int) = (x : Int) := IntWalk.u8_in _ (by omega)
  clear cs hN
  go_enter Tryz.func30, Tryz.ntmps30
  go_wp2_with fail
  refine CS.out.mono ?_
  rintro e w1 ⟨rfl, rfl⟩
  go_wp2
  go_ret
  exact ⟨rfl, rfl⟩

end Go.Proofs.YtadncponjpdcmaaGreatDoor

/-
  The lines that are none: the list, walked; and that none of them is read.
-/
import Derived.Test.YtadncponjpdcmaaGreatDoorLines
namespace Go.Proofs.YtadncponjpdcmaaGreatDoor
open Go.RowKit

def looseL : List Bs := [[112, 117, 116, 32, 97, 32, 98], [108, 105, 110, 107], [99, 111, 109, 112, 105, 108, 101, 32, 100, 101, 102, 32, 37, 54, 49], [112, 117, 116, 32, 100, 101, 102], [112, 117, 116, 32, 117, 110, 105, 116, 32, 97, 32, 98], [114, 117, 110, 32, 49, 32, 50, 32, 51, 32, 52], [114, 117, 110, 32, 48, 49, 32, 50, 32, 51, 32, 52, 32, 120], [114, 117, 110, 32, 45, 48, 32, 50, 32, 51, 32, 52, 32, 120], [114, 117, 110, 32, 43, 49, 32, 50, 32, 51, 32, 52, 32, 120], [114, 117, 110, 32, 49, 32, 50, 32, 51, 32, 120, 32, 52], [80, 117, 116, 32, 100, 101, 102, 32, 120], [108, 105, 110, 107, 32, 97, 32, 98], [111, 98, 106, 101, 99, 116], [105, 109, 97, 103, 101, 32, 37, 122, 122], [105, 109, 97, 103, 101, 32, 37, 50, 68], [105, 109, 97, 103, 101, 32, 37], [115, 121, 109, 98, 111, 108, 115, 32, 97, 37, 50], [108, 105, 110, 107, 32, 37, 50, 100, 37, 50, 100], [108, 105, 110, 107, 115, 32, 97], [99, 111, 109, 112, 105, 108, 101, 32, 97], [105, 109, 97, 103, 101, 32, 255], [108, 105, 110, 107, 32, 97, 9, 98]]

theorem loose_lit : (looseL.map str).toArray = #[Value.string ⟨#[112, 117, 116, 32, 97, 32, 98]⟩, Value.string ⟨#[108, 105, 110, 107]⟩, Value.string ⟨#[99, 111, 109, 112, 105, 108, 101, 32, 100, 101, 102, 32, 37, 54, 49]⟩, Value.string ⟨#[112, 117, 116, 32, 100, 101, 102]⟩, Value.string ⟨#[112, 117, 116, 32, 117, 110, 105, 116, 32, 97, 32, 98]⟩, Value.string ⟨#[114, 117, 110, 32, 49, 32, 50, 32, 51, 32, 52]⟩, Value.string ⟨#[114, 117, 110, 32, 48, 49, 32, 50, 32, 51, 32, 52, 32, 120]⟩, Value.string ⟨#[114, 117, 110, 32, 45, 48, 32, 50, 32, 51, 32, 52, 32, 120]⟩, Value.string ⟨#[114, 117, 110, 32, 43, 49, 32, 50, 32, 51, 32, 52, 32, 120]⟩, Value.string ⟨#[114, 117, 110, 32, 49, 32, 50, 32, 51, 32, 120, 32, 52]⟩, Value.string ⟨#[80, 117, 116, 32, 100, 101, 102, 32, 120]⟩, Value.string ⟨#[108, 105, 110, 107, 32, 97, 32, 98]⟩, Value.string ⟨#[111, 98, 106, 101, 99, 116]⟩, Value.string ⟨#[105, 109, 97, 103, 101, 32, 37, 122, 122]⟩, Value.string ⟨#[105, 109, 97, 103, 101, 32, 37, 50, 68]⟩, Value.string ⟨#[105, 109, 97, 103, 101, 32, 37]⟩, Value.string ⟨#[115, 121, 109, 98, 111, 108, 115, 32, 97, 37, 50]⟩, Value.string ⟨#[108, 105, 110, 107, 32, 37, 50, 100, 37, 50, 100]⟩, Value.string ⟨#[108, 105, 110, 107, 115, 32, 97]⟩, Value.string ⟨#[99, 111, 109, 112, 105, 108, 101, 32, 97]⟩, Value.string ⟨#[105, 109, 97, 103, 101, 32, 255]⟩, Value.string ⟨#[108, 105, 110, 107, 32, 97, 9, 98]⟩] := rfl

set_option maxHeartbeats 1000000 in
set_option maxRecDepth 100000 in
theorem loose_any (w : World) : Calls Tryz.prog 14 #[] w fun e w' => e = .returned (.slice (some ⟨w.heap.size, 0, none⟩) 22 22) ∧ w.alloc (.cells (looseL.map str).toArray 9) = w' := by
  rw [loose_lit]
  go_enter Tryz.func14, Tryz.ntmps14
  go_wp2
  go_ret
  exact ⟨rfl, rfl⟩

theorem loose_len : looseL.length = 22 := rfl

/-! ### None of them is read -/

theorem dec_small (u : Nat) (h : u < 10) : Lib.decDigits u = [UInt8.ofNat (48 + u)] := by rw [Lib.decDigits, dif_pos h]

theorem itoa_digit (u : Nat) (h : u < 10) : Lib.itoa (u : Int) = [UInt8.ofNat (48 + u)] := by
  unfold Lib.itoa
  rw [if_neg (by omega), show (u : Int).toNat = u from rfl, dec_small u h]

/-- Once bad, bad. -/
theorem step_bad {T : Type} (W : T → Bs) (R : Bs → T) (ws : List Bs) (x : T) : (stepR W R (ws, true) x).1.2 = true := by
  unfold stepR
  split
  · rename_i h; injection h with _ h; cases h
  · rfl
theorem step_out {T : Type} (W : T → Bs) (R : Bs → T) (b : Bool) (x : T) : (stepR W R ([], b) x).1.2 = true := by
  unfold stepR
  split
  · rename_i h; injection h with h _; cases h
  · rfl

theorem loose_none : ∀ l ∈ looseL, (readL (wordsL l)).2 = false ∧ skipL l = false := by
  intro l hl
  simp only [looseL, List.mem_cons, List.not_mem_nil, or_false] at hl
  rcases hl with rfl | rfl | rfl | rfl | rfl | rfl | rfl | rfl | rfl | rfl | rfl | rfl | rfl | rfl | rfl | rfl | rfl | rfl | rfl | rfl | rfl | rfl
  all_goals decide +kernel
end Go.Proofs.YtadncponjpdcmaaGreatDoor

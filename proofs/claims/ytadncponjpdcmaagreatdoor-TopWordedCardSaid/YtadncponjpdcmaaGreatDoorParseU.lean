/-
  strconv.ParseUint at base 16, 8 bits, and at most two bytes: walked.
-/
import Derived.Test.YtadncponjpdcmaaGreatDoorWorded
namespace Go.Proofs.YtadncponjpdcmaaGreatDoor
open Go.RowKit

def hexFold (acc : Nat) : Bs → Option Nat
  | [] => some acc
  | c :: r => match hexVal c with
    | none => none
    | some d => hexFold (acc * 16 + d) r
def hexNum (l : Bs) : Option Nat := if l = [] then none else hexFold 0 l

theorem lower_fin : ∀ c : Fin 256, (0 ≤ bits .or .u8 ((c.val : Nat) : Int) 32 ∧ bits .or .u8 ((c.val : Nat) : Int) 32 ≤ 255) ∧
    ((48 ≤ c.val ∧ c.val ≤ 57) → hexVal (UInt8.ofNat c.val) = some (c.val - 48)) ∧
    ((c.val < 48 ∨ 57 < c.val) → (97 ≤ bits .or .u8 ((c.val : Nat) : Int) 32 ∧ bits .or .u8 ((c.val : Nat) : Int) 32 ≤ 102) → hexVal (UInt8.ofNat c.val) = some ((bits .or .u8 ((c.val : Nat) : Int) 32).toNat - 87)) ∧
    ((c.val < 48 ∨ 57 < c.val) → (bits .or .u8 ((c.val : Nat) : Int) 32 < 97 ∨ 102 < bits .or .u8 ((c.val : Nat) : Int) 32) → hexVal (UInt8.ofNat c.val) = none) := by
  decide +kernel

/-- What the loop makes of a byte. -/
theorem byte_class (c : UInt8) : ∃ lc : Int, (∀ w, Calls Tryz.prog 89 #[.int .u8 (c.toNat : Int)] w fun e w' => e = .returned (.int .u8 lc) ∧ w = w') ∧ 0 ≤ lc ∧ lc ≤ 255 ∧
    ((48 ≤ c.toNat ∧ c.toNat ≤ 57) → hexVal c = some (c.toNat - 48)) ∧
    ((c.toNat < 48 ∨ 57 < c.toNat) → (97 ≤ lc ∧ lc ≤ 102) → hexVal c = some (lc.toNat - 87)) ∧
    ((c.toNat < 48 ∨ 57 < c.toNat) → (lc < 97 ∨ 102 < lc) → hexVal c = none) := by
  have h := lower_fin ⟨c.toNat, c.toNat_lt⟩
  have hc : UInt8.ofNat c.toNat = c := by simp
  simp only [hc] at h
  refine ⟨_, fun w => (Tryz.internal_strconv_lower (c.toNat : Int) w).mono ?_, h.1.1, h.1.2, h.2⟩
  rintro e w' ⟨rfl, rfl⟩
  exact ⟨rfl, rfl⟩

/-- How the parse ends. -/
def PUPost (r : Option Nat) (w : World) (e : Ending) (w' : World) : Prop :=
  (match r with
    | some n => e = .returned (.tuple #[.int .u64 n, .nilIface])
    | none => e = .returned (.tuple #[.int .u64 0, .iface 130 (.int .i64 2)])) ∧ Below w.heap.size w w'

set_option maxHeartbeats 2000000 in
set_option maxRecDepth 100000 in
theorem pu_nil (w : World) : Calls Tryz.prog 69 #[.string ⟨#[]⟩, .int .i64 16, .int .i64 8] w (PUPost none w) := by
  go_enter Tryz.func69, Tryz.ntmps69
  go_wp2
  go_ret2
  exact ⟨rfl, Below.refl _ _⟩

theorem ret_two {a b : Int} (h : a = b) : Ending.returned (.tuple #[.int .u64 a, .nilIface]) = .returned (.tuple #[.int .u64 b, .nilIface]) := by rw [h]

theorem hexFold_step {acc d : Nat} {c : UInt8} {r : Bs} {R : Option Nat} (h : hexVal c = some d) (hf : hexFold acc (c :: r) = R) : hexFold (acc * 16 + d) r = R := by
  rw [← hf]; simp only [hexFold, h]
theorem hexFold_none {acc : Nat} {c : UInt8} {r : Bs} {R : Option Nat} (h : hexVal c = none) (hf : hexFold acc (c :: r) = R) : R = none := by
  rw [← hf]; simp only [hexFold, h]
theorem hexFold_end (acc : Nat) : hexFold acc [] = some acc := rfl

set_option maxHeartbeats 8000000 in
set_option maxRecDepth 100000 in
theorem pu_some (s : ByteArray) (w : World) (h1 : 1 ≤ s.size) (h2 : s.size ≤ 2) (R : Option Nat) (hR : hexFold 0 s.data.toList = R) :
    Calls Tryz.prog 69 #[.string s, .int .i64 16, .int .i64 8] w (PUPost R w) := by
  obtain ⟨cap, w2, hrun, hcell, hk, hsz⟩ := conv_bytes s w
  have hbw : Below w.heap.size w w2 := hk.below_of (Nat.le_refl _) (fun _ _ => trivial)
  have h0 : s.toList.isEmpty = false := isEmpty_no (by intro e; rw [Lib.size_eq, e] at h1; simp at h1)
  have HR := Lib.hid hR
  have HC := Lib.hid hcell
  have HBW := Lib.hid hbw
  clear hcell hk hsz hbw hR
  go_enter Tryz.func69, Tryz.ntmps69
  go_wp2
  go_loop [12, 13, 101] (fun u n i => u = .bool false ∧ ∃ (k : Nat) (M : Int), k ≤ s.size ∧ i = .int .i64 k ∧ n = .int .u64 M ∧ 0 ≤ M ∧ M.toNat < 16 ^ k ∧ hexFold M.toNat (s.data.toList.drop k) = R) (fun _ _ i => s.size - (intOf i).toNat)
  case atStart => exact ⟨rfl, 0, 0, Nat.zero_le _, rfl, rfl, by decide, by decide, HR.out⟩
  case round =>
    obtain ⟨rfl, k, M, hk, rfl, rfl, hM0, hm, hf⟩ := hrel
    by_cases hlt : k < s.size
    · have hcl := HC.out k hlt
      rw [getD_get s k hlt] at hcl
      obtain ⟨c, hc⟩ : ∃ c, s[k]'hlt = c := ⟨_, rfl⟩
      have hdr : s.data.toList.drop k = c :: s.data.toList.drop (k + 1) := by
        rw [← hc]; exact List.drop_eq_getElem_cons (by simpa using hlt)
      rw [hc] at hcl
      rw [hdr] at hf
      have hcb := c.toNat_lt
      obtain ⟨lc, c89, l0, l1, d1, d2, d3⟩ := byte_class c
      have hm16 : M < 16 := by
        have : k = 0 ∨ k = 1 := by omega
        rcases this with rfl | rfl <;> simp at hm <;> omega
      have hpow : ∀ d, d < 16 → M.toNat * 16 + d < 16 ^ (k + 1) := by
        intro d hd
        have : k = 0 ∨ k = 1 := by omega
        rcases this with rfl | rfl <;> simp at hm ⊢ <;> omega
      have HF := Lib.hid hf
      have C89 := Lib.hid c89
      have HP := Lib.hid hpow
      have D1 := Lib.hid d1
      have D2 := Lib.hid d2
      have D3 := Lib.hid d3
      clear hf c89 hpow d1 d2 d3 hdr hc hm
      by_cases hdig : 48 ≤ c.toNat ∧ c.toNat ≤ 57
      · have b1 : (48 : Int) ≤ (c.toNat : Int) := by omega
        have b2 : (c.toNat : Int) ≤ 57 := by omega
        go_wp2
        go_roundw
        case rel =>
          have e : (M * 16 + ((c.toNat : Int) - 48)).toNat = M.toNat * 16 + (c.toNat - 48) := by omega
          refine ⟨rfl, k + 1, M * 16 + ((c.toNat : Int) - 48), by omega, by go_num, rfl, by omega, ?_, ?_⟩
          · rw [e]; exact HP.out _ (by omega)
          · rw [e]; exact hexFold_step (D1.out hdig) HF.out
        case measure => simp [intOf]; omega
      · have hnd : c.toNat < 48 ∨ 57 < c.toNat := by omega
        by_cases hlet : 97 ≤ lc ∧ lc ≤ 102
        · obtain ⟨b3, b4⟩ := hlet
          have hs := hexFold_step (D2.out hnd ⟨b3, b4⟩) HF.out
          have HS := Lib.hid hs
          have e : (M * 16 + (lc - 97 + 10)).toNat = M.toNat * 16 + (lc.toNat - 87) := by omega
          have hp := HP.out (lc.toNat - 87) (by omega)
          rw [← e] at hp
          rw [← e] at hs
          have HP2 := Lib.hid hp
          have HS2 := Lib.hid hs
          have b5 : ((c.toNat : Int) == 95) = false ∨ ((c.toNat : Int) == 95) = true := by cases h : ((c.toNat : Int) == 95) <;> simp
          clear hs hp e HS hdig
          rcases hnd with b1 | b1 <;> rcases b5 with b6 | b6
          all_goals
            have b2 : ¬ ((48 : Int) ≤ (c.toNat : Int) ∧ (c.toNat : Int) ≤ 57) := by omega
            go_wp2_with (go_at_call 89; refine (C89.out _).mono ?_; rintro e w3 ⟨rfl, rfl⟩)
            go_roundw
            case rel => exact ⟨rfl, k + 1, M * 16 + (lc - 97 + 10), by omega, by go_num, rfl, by omega, HP2.out, HS2.out⟩
            case measure => simp [intOf]; omega
        · have hrn := hexFold_none (D3.out hnd (by omega)) HF.out
          subst hrn
          have b5 : ((c.toNat : Int) == 95) = false ∨ ((c.toNat : Int) == 95) = true := by cases h : ((c.toNat : Int) == 95) <;> simp
          have b7 : lc < 97 ∨ (97 ≤ lc ∧ 103 ≤ lc ∧ lc ≤ 122) ∨ (97 ≤ lc ∧ 122 < lc) := by omega
          clear hdig hlet
          rcases hnd with b1 | b1 <;> rcases b5 with b6 | b6 <;> rcases b7 with b8 | ⟨b8, b9, b10⟩ | ⟨b8, b9⟩
          all_goals
            have b2 : ¬ ((48 : Int) ≤ (c.toNat : Int) ∧ (c.toNat : Int) ≤ 57) := by omega
            go_wp2_with (go_at_call 89; refine (C89.out _).mono ?_; rintro e w3 ⟨rfl, rfl⟩)
            go_ret2
            exact ⟨rfl, HBW.out⟩
    · obtain rfl : k = s.size := by omega
      rw [List.drop_of_length_le (by simp)] at hf
      have HF := Lib.hid hf
      clear hf
      go_wp2
      go_ret2
      obtain rfl : R = some M.toNat := HF.out.symm
      exact ⟨ret_two (Int.toNat_of_nonneg hM0).symm, HBW.out⟩
end Go.Proofs.YtadncponjpdcmaaGreatDoor

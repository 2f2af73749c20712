/-
  UTF-8, as a range over a valid string goes through it: the plain laws.
-/
import Derived.Test.YtadncponjpdcmaaGreatDoorGlob
import Derived.Lib.ValidLaws
import Derived.Lib.MapLaws
import Derived.Lib.TrimUEq
namespace Go.Proofs.YtadncponjpdcmaaGreatDoor
open Go.RowKit

theorem encodeRuneZ_high (r : Int) (h : 128 ≤ r) : ∀ x ∈ Lib.encodeRuneZ r, 128 ≤ x ∧ x < 256 := by
  intro x hx
  by_cases h1 : r ≤ 2047
  · rw [Lib.encodeRuneZ_two h h1] at hx
    simp at hx
    omega
  by_cases h2 : r < 55296 ∨ (57343 < r ∧ r ≤ 65535)
  · rw [Lib.encodeRuneZ_three (by omega)] at hx
    simp at hx
    omega
  by_cases h3 : 65536 ≤ r ∧ r ≤ 1114111
  · rw [Lib.encodeRuneZ_four h3.1 h3.2] at hx
    simp at hx
    omega
  · rw [Lib.encodeRuneZ_bad (by omega)] at hx
    simp at hx
    omega

theorem encodeRune_high (r : Int) (h : 128 ≤ r) : ∀ c ∈ Lib.encodeRune r, 128 ≤ c.toNat := by
  intro c hc
  unfold Lib.encodeRune at hc
  obtain ⟨x, hx, rfl⟩ := List.mem_map.1 hc
  have hb := encodeRuneZ_high r h x hx
  have : x.toNat.toUInt8.toNat = x.toNat := by
    rw [Nat.toUInt8, UInt8.toNat_ofNat']
    omega
  rw [this]
  omega

theorem enc1_high {c : UInt8} (h : 128 ≤ c.toNat) : enc1 c = [c] := by
  unfold enc1 keepB
  rw [if_pos]
  simp
  omega

theorem flat_high : ∀ l : Bs, (∀ c ∈ l, 128 ≤ c.toNat) → l.flatMap enc1 = l
  | [], _ => rfl
  | c :: l, h => by
    rw [List.flatMap_cons, enc1_high (h c (by simp)), flat_high l (fun d hd => h d (by simp [hd]))]
    rfl

theorem drop_ne {s : ByteArray} {pos : Nat} (hp : pos < s.size) : s.data.toList.drop pos ≠ [] := by
  intro e
  have := congrArg List.length e
  simp at this
  omega

/-- One step of a range over a valid string. -/
theorem valid_round (s : ByteArray) (pos : Nat) (hp : pos < s.size) (hv : Lib.validD (s.data.toList.drop pos) = true) :
    1 ≤ (Utf8.decode s pos).2 ∧ pos + (Utf8.decode s pos).2 ≤ s.size ∧ Lib.validD (s.data.toList.drop (pos + (Utf8.decode s pos).2)) = true ∧
    ((∃ b : UInt8, s.data.toList.drop pos = b :: s.data.toList.drop (pos + 1) ∧ (Utf8.decode s pos).2 = 1 ∧ (Utf8.decode s pos).1 = b.toNat ∧ b.toNat < 128) ∨
     (128 ≤ (Utf8.decode s pos).1 ∧ Lib.encodeRune ((Utf8.decode s pos).1 : Int) = (s.data.toList.drop pos).take (Utf8.decode s pos).2 ∧
        ∀ c ∈ (s.data.toList.drop pos).take (Utf8.decode s pos).2, 128 ≤ c.toNat)) := by
  have hne := drop_ne hp
  have hdd := Lib.decodeL_drop s pos
  have hw := Lib.decodeL_width (s.data.toList.drop pos)
  have hle := Lib.decodeL_le (s.data.toList.drop pos) hne
  rw [Lib.validD_step _ hne] at hv
  rw [hdd] at hw hle hv
  by_cases hbad : (Utf8.decode s pos).1 = 65533 ∧ (Utf8.decode s pos).2 = 1
  · rw [if_pos hbad] at hv; cases hv
  rw [if_neg hbad, List.drop_drop] at hv
  refine ⟨hw, ?_, hv, ?_⟩
  · rw [List.length_drop] at hle; simp at hle; omega
  by_cases ha : (s[pos]'hp).toNat < 128
  · have hd := decode_ascii s pos hp ha
    refine .inl ⟨s[pos]'hp, ?_, by rw [hd], by rw [hd], ha⟩
    exact List.drop_eq_getElem_cons (by simpa using hp)
  · have hh := decode_high s pos hp (by omega)
    have he := Lib.encode_decode (s.data.toList.drop pos) hne (by rw [hdd]; exact hbad)
    rw [hdd] at he
    refine .inr ⟨hh.1, he, ?_⟩
    rw [← he]
    exact encodeRune_high _ (by omega)

/-- A step of a range over a string that is not valid at its end, or goes on. -/
theorem take_add (s : ByteArray) (pos n : Nat) : s.data.toList.take (pos + n) = s.data.toList.take pos ++ (s.data.toList.drop pos).take n := by
  rw [List.take_add]

theorem encode_small (b : UInt8) (h : b.toNat < 128) : Utf8.encode (b.toNat : Int) = ⟨#[b]⟩ := by
  unfold Utf8.encode
  have hv : Utf8.valid (b.toNat : Int) = true := by unfold Utf8.valid; simp; omega
  simp only [hv, if_true]
  rw [if_pos (by omega)]
  simp

theorem encodeRune_small (b : UInt8) (h : b.toNat < 128) : Lib.encodeRune (b.toNat : Int) = [b] := by
  unfold Lib.encodeRune
  rw [Lib.encodeRuneZ_one (by omega) (by omega)]
  simp

/-- The model's encoder is the kit's. -/
theorem encode_eq (r : Nat) (h1 : r ≤ 1114111) : (Utf8.encode (r : Int)).data.toList = Lib.encodeRune (r : Int) := by
  unfold Lib.encodeRune
  by_cases a1 : r ≤ 127
  · rw [Lib.encodeRuneZ_one (by omega) (by omega)]
    unfold Utf8.encode
    have hv : Utf8.valid (r : Int) = true := by unfold Utf8.valid; simp; omega
    simp only [hv, if_true]
    rw [if_pos (by omega)]
    simp
  by_cases a2 : r ≤ 2047
  · rw [Lib.encodeRuneZ_two (by omega) (by omega)]
    unfold Utf8.encode
    have hv : Utf8.valid (r : Int) = true := by unfold Utf8.valid; simp; omega
    simp only [hv, if_true]
    rw [if_neg (by omega), if_pos (by omega)]
    have e1 : ((192 : Int) + r / 64).toNat = 192 + r / 64 := by omega
    have e2 : ((128 : Int) + r % 64).toNat = 128 + r % 64 := by omega
    simp [e1, e2]
  by_cases a3 : r < 55296 ∨ (57343 < r ∧ r ≤ 65535)
  · rw [Lib.encodeRuneZ_three (by omega)]
    unfold Utf8.encode
    have hv : Utf8.valid (r : Int) = true := by unfold Utf8.valid; simp; omega
    simp only [hv, if_true]
    rw [if_neg (by omega), if_neg (by omega), if_pos (by omega)]
    have e1 : ((224 : Int) + r / 4096).toNat = 224 + r / 4096 := by omega
    have e2 : ((128 : Int) + r / 64 % 64).toNat = 128 + r / 64 % 64 := by omega
    have e3 : ((128 : Int) + r % 64).toNat = 128 + r % 64 := by omega
    simp [e1, e2, e3]
  by_cases a4 : 65536 ≤ r
  · rw [Lib.encodeRuneZ_four (by omega) (by omega)]
    unfold Utf8.encode
    have hv : Utf8.valid (r : Int) = true := by unfold Utf8.valid; simp; omega
    simp only [hv, if_true]
    rw [if_neg (by omega), if_neg (by omega), if_neg (by omega)]
    have e1 : ((240 : Int) + r / 262144).toNat = 240 + r / 262144 := by omega
    have e2 : ((128 : Int) + r / 4096 % 64).toNat = 128 + r / 4096 % 64 := by omega
    have e3 : ((128 : Int) + r / 64 % 64).toNat = 128 + r / 64 % 64 := by omega
    have e4 : ((128 : Int) + r % 64).toNat = 128 + r % 64 := by omega
    simp [e1, e2, e3, e4]
  · rw [Lib.encodeRuneZ_bad (by omega)]
    unfold Utf8.encode
    have hv : Utf8.valid (r : Int) = false := by unfold Utf8.valid; simp; omega
    simp only [hv, Bool.false_eq_true, if_false, Utf8.runeError]
    decide

end Go.Proofs.YtadncponjpdcmaaGreatDoor

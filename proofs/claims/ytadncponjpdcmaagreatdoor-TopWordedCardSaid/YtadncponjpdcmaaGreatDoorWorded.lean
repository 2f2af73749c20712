/-
  worded: walked: a text as a script's word, by hand.
-/
import Derived.Test.YtadncponjpdcmaaGreatDoorToVal
namespace Go.Proofs.YtadncponjpdcmaaGreatDoor
open Go.RowKit

theorem below_drewNx {B : Nat} {a w : World} (h : Below B a w) (n : Nat) : Below B a (w.drewN n) := ⟨h.os, h.tape, h.output, h.size, h.block⟩

set_option maxHeartbeats 1000000 in
set_option maxRecDepth 100000 in
theorem worded_nil (w : World) : Calls Tryz.prog 8 #[.string ⟨#[]⟩] w fun e w' => e = .returned (str [45]) ∧ w = w' := by
  go_enter Tryz.func8, Tryz.ntmps8
  go_wp2
  go_ret
  exact ⟨rfl, rfl⟩

set_option maxHeartbeats 1000000 in
set_option maxRecDepth 100000 in
theorem worded_dash (w : World) : Calls Tryz.prog 8 #[.string ⟨#[45]⟩] w fun e w' => e = .returned (str [37, 50, 100]) ∧ w = w' := by
  go_enter Tryz.func8, Tryz.ntmps8
  go_wp2
  go_ret
  exact ⟨rfl, rfl⟩

set_option maxHeartbeats 1000000 in
set_option maxRecDepth 100000 in
theorem worded_bad (s : ByteArray) (w : World) (hs : s.size ≤ 1000000000) (hG : Glob w) (h0 : s.toList.isEmpty = false) (h1 : (s.toList == [45]) = false) (hv : Lib.validD s.data.toList = false) :
    Calls Tryz.prog 8 #[.string s] w fun e w' => e = .returned (str (s.data.toList.flatMap hexedL)) ∧ Below w.heap.size w w' := by
  have HG := Lib.hid hG
  have HV := Lib.hid hv
  clear hG hv
  go_enter Tryz.func8, Tryz.ntmps8
  go_wp2_with fail
  refine (tv_bad s _ hs HG.out HV.out).mono ?_
  rintro e w1 ⟨l, rfl, hl, hb⟩
  have hne : (l == s.toList) = false := by
    rw [ByteArray.toList_eq]
    simp only [beq_eq_false_iff_ne, ne_eq]
    intro e
    have := congrArg List.length e
    simp at this
    omega
  go_wp2
  go_loopw [3, 5] (fun o i wr => ∃ (k : Nat) (t : ByteArray), k ≤ s.size ∧ i = .int .i64 k ∧ o = .string t ∧ t.data.toList = (s.data.toList.take k).flatMap hexedL ∧ Below w.heap.size w wr) (fun _ i _ => s.size - (intOf i).toNat)
  case atStart => exact ⟨0, ⟨#[]⟩, Nat.zero_le _, rfl, rfl, rfl, hb⟩
  case round =>
    obtain ⟨k, t, hk, rfl, rfl, ht, hbw⟩ := hrel
    have hz := flat_length hexedL (fun b => by simp [hexedL]) (s.data.toList.take k)
    have h2 : (s.data.toList.take k).length ≤ k := List.length_take_le _ _
    have htz : t.size ≤ 3000000000 := by rw [Lib.size_eq, ht]; omega
    have HT := Lib.hid ht
    clear hz h2 ht
    by_cases hlt : k < s.size
    · obtain ⟨c, hc⟩ : ∃ c, s[k]'hlt = c := ⟨_, rfl⟩
      have hsn := take_snoc s.data.toList k (by simpa using hlt)
      rw [getD_get s k hlt, hc] at hsn
      have HS := Lib.hid hsn
      clear hsn
      go_wp2_with fail
      refine (hexed_any c _).mono ?_
      rintro e w2 ⟨rfl, n, rfl⟩
      have hzz : (⟨(hexedL c).toArray⟩ : ByteArray).size = 3 := rfl
      go_wp2
      go_roundw
      case rel => exact ⟨k + 1, _, by omega, by go_num, rfl, by rw [ByteArray.data_append, Array.toList_append, HT.out, HS.out, List.flatMap_append]; simp, below_drewNx hbw n⟩
      case measure => simp [intOf]; omega
    · obtain rfl : k = s.size := by omega
      rw [List.take_of_length_le (by simp)] at HT
      go_wp2
      go_ret
      exact ⟨ret_str (bytes_eq HT.out), hbw⟩

set_option maxHeartbeats 1000000 in
set_option maxRecDepth 100000 in
theorem worded_good (s : ByteArray) (w : World) (hs : s.size ≤ 1000000000) (hG : Glob w) (h0 : s.toList.isEmpty = false) (h1 : (s.toList == [45]) = false) (hv : Lib.validD s.data.toList = true) :
    Calls Tryz.prog 8 #[.string s] w fun e w' => e = .returned (str (s.data.toList.flatMap enc1)) ∧ Below w.heap.size w w' := by
  have HG := Lib.hid hG
  have HV := Lib.hid hv
  clear hG hv
  go_enter Tryz.func8, Tryz.ntmps8
  go_wp2_with fail
  refine (tv_good s _ hs HG.out HV.out).mono ?_
  rintro e w1 ⟨rfl, hb⟩
  have hit0 : (w1.iter s 0).heap[w1.heap.size]? = some (.stringIter s 0) := World.iter_heap w1 s 0
  have hbw0 : Below w.heap.size w (w1.iter s 0) := hb.trans ((Below.refl _ w1).alloc (by have := hb.size; omega) _)
  have HI0 := Lib.hid hit0
  have HB0 := Lib.hid hbw0
  have hle : w.heap.size ≤ w1.heap.size := hb.size
  clear hit0 hbw0 hb
  go_wp2
  go_loopw [3] (fun o wr => ∃ (pos : Nat) (t : ByteArray), pos ≤ s.size ∧ Lib.validD (s.data.toList.drop pos) = true ∧ o = .string t ∧ t.data.toList = (s.data.toList.take pos).flatMap enc1 ∧ wr.heap[w1.heap.size]? = some (.stringIter s pos) ∧ Below w.heap.size w wr) (fun _ wr => s.size - wr.iterPos w1.heap.size)
  case atStart => exact ⟨0, ⟨#[]⟩, Nat.zero_le _, HV.out, rfl, rfl, HI0.out, HB0.out⟩
  case round =>
    obtain ⟨pos, t, hps, hva, rfl, ht, hit, hbw⟩ := hrel
    have hsz : w1.heap.size < wr.heap.size := (Array.getElem?_eq_some_iff.1 hit).1
    have hz := flat_length enc1 (fun b => by unfold enc1; split <;> simp [hexedL]) (s.data.toList.take pos)
    have h2 : (s.data.toList.take pos).length ≤ pos := List.length_take_le _ _
    have htz : t.size ≤ 3000000000 := by rw [Lib.size_eq, ht]; omega
    have HT := Lib.hid ht
    clear hz h2 ht
    by_cases hp : pos < s.size
    · have hnx : ∀ ty, (Instr.next (.pointer (some ⟨w1.heap.size, 0, none⟩)) true ty).run Tryz.prog wr = _ := fun ty => Lib.run_next_any_at wr w1.heap.size s pos ty hit hp
      obtain ⟨q1, q2, q3, q4⟩ := valid_round s pos hp hva
      have hd1 := decode_le s pos
      have hr1 := Lib.rune_le s pos
      generalize hr : (Utf8.decode s pos).1 = r at hnx q4 hd1 hr1
      generalize hwd : (Utf8.decode s pos).2 = wd at hnx q1 q2 q3 q4
      have HR := Lib.hid hr1
      have hit2 := Lib.iterAt_heap wr w1.heap.size s pos (pos + wd) hit
      have hbw2 := Lib.below_iterAt hbw (k := w1.heap.size) hle s (pos + wd)
      have hta := take_add s pos wd
      have HTA := Lib.hid hta
      have HIT := Lib.hid hit
      have HIT2 := Lib.hid hit2
      have HBW2 := Lib.hid hbw2
      have HQ3 := Lib.hid q3
      clear hr hwd hit hbw hva hta q3 hit2 hbw2 hr1
      by_cases hkeep : (32 : Int) < (r : Int) ∧ ¬ ((r : Int) = 127) ∧ ¬ ((r : Int) = 37)
      · obtain ⟨k1, k2, k3⟩ := hkeep
        have hpiece : ((s.data.toList.drop pos).take wd).flatMap enc1 = (Utf8.encode (r : Int)).data.toList ∧ (Utf8.encode (r : Int)).size = wd := by
          rcases q4 with ⟨b, hb1, rfl, rfl, hb2⟩ | ⟨ha, hb1, hb2⟩
          · rw [hb1, encode_small b hb2]
            simp only [List.take_succ_cons, List.take_zero, List.flatMap_cons, List.flatMap_nil, List.append_nil]
            exact ⟨enc1_keep ⟨k1, k2, k3⟩, rfl⟩
          · rw [Lib.size_eq, encode_eq r HR.out, flat_high _ hb2, hb1]
            exact ⟨rfl, by simp; omega⟩
        have HP := Lib.hid hpiece
        have k2' : ((r : Int) != 127) = true := by simp; omega
        have k3' : ((r : Int) != 37) = true := by simp; omega
        have hes : (Utf8.encode (r : Int)).size ≤ 1000000000 := by rw [hpiece.2]; omega
        clear hpiece q4 k2 k3
        go_wp2
        go_roundw
        case rel => exact ⟨pos + wd, _, q2, HQ3.out, rfl, by rw [ByteArray.data_append, Array.toList_append, HT.out, HTA.out, List.flatMap_append, HP.out.1], HIT2.out, HBW2.out⟩
        case measure =>
          simp only [World.iterPos, HIT2.out, HIT.out]
          omega
      · obtain ⟨b, hb1, rfl, rfl, hb2⟩ : ∃ b : UInt8, s.data.toList.drop pos = b :: s.data.toList.drop (pos + 1) ∧ wd = 1 ∧ r = b.toNat ∧ b.toNat < 128 := by
          rcases q4 with h | ⟨ha, _, _⟩
          · exact h
          · exfalso; apply hkeep; omega
        have hpiece : ((s.data.toList.drop pos).take 1).flatMap enc1 = hexedL b := by
          rw [hb1]
          simp only [List.take_succ_cons, List.take_zero, List.flatMap_cons, List.flatMap_nil, List.append_nil]
          exact enc1_not hkeep
        have HP := Lib.hid hpiece
        have HB1 := Lib.hid hb1
        have hu : IntKind.u8.wrap (b.toNat : Int) = (b.toNat : Int) := IntWalk.u8_in _ (by omega)
        clear hpiece q4 hb1
        have hcase : ¬ ((32 : Int) < (b.toNat : Int)) ∨ ((32 : Int) < (b.toNat : Int) ∧ (((b.toNat : Nat) : Int) != 127) = false) ∨ ((32 : Int) < (b.toNat : Int) ∧ (((b.toNat : Nat) : Int) != 127) = true ∧ (((b.toNat : Nat) : Int) != 37) = false) := by
          by_cases g : (32 : Int) < (b.toNat : Int)
          · by_cases g2 : ((b.toNat : Nat) : Int) = 127
            · exact .inr (.inl ⟨g, by simp [g2]⟩)
            · refine .inr (.inr ⟨g, by simpa using g2, ?_⟩)
              have : ((b.toNat : Nat) : Int) = 37 := Classical.byContradiction fun h => hkeep ⟨g, g2, h⟩
              simp [this]
          · exact .inl g
        clear hkeep
        rcases hcase with g | ⟨g, g2⟩ | ⟨g, g2, g3⟩
        all_goals
          go_wp2_with fail
          refine (hexed_any b _).mono ?_
          rintro e w3 ⟨rfl, n, rfl⟩
          have hzz : (⟨(hexedL b).toArray⟩ : ByteArray).size = 3 := rfl
          go_wp2
          go_roundw
          case rel => exact ⟨pos + 1, _, q2, HQ3.out, rfl, by rw [ByteArray.data_append, Array.toList_append, HT.out, HTA.out, List.flatMap_append, HP.out], HIT2.out, below_drewNx HBW2.out n⟩
          case measure =>
            have e2 : ((wr.iterAt w1.heap.size s (pos + 1)).drewN n).heap[w1.heap.size]? = some (.stringIter s (pos + 1)) := HIT2.out
            simp only [World.iterPos, e2, HIT.out]
            omega
    · have hnx : ∀ ty, (Instr.next (.pointer (some ⟨w1.heap.size, 0, none⟩)) true ty).run Tryz.prog wr = _ := fun ty => Lib.run_next_end_at wr w1.heap.size s pos ty hit hp
      obtain rfl : pos = s.size := by omega
      rw [List.take_of_length_le (by simp)] at HT
      clear hit
      go_wp2
      go_ret
      exact ⟨ret_str (bytes_eq HT.out), hbw⟩

theorem worded_any (s : ByteArray) (w : World) (hs : s.size ≤ 1000000000) (hG : Glob w) :
    Calls Tryz.prog 8 #[.string s] w fun e w' => e = .returned (str (wordL s.data.toList)) ∧ Below w.heap.size w w' := by
  by_cases h0 : s.data.toList = []
  · obtain rfl := str_empty h0
    refine (worded_nil w).mono ?_
    rintro e w' ⟨rfl, rfl⟩
    exact ⟨rfl, Below.refl _ _⟩
  by_cases h1 : s.data.toList = [45]
  · obtain rfl := bytes_eq h1
    refine (worded_dash w).mono ?_
    rintro e w' ⟨rfl, rfl⟩
    exact ⟨rfl, Below.refl _ _⟩
  by_cases hv : Lib.validD s.data.toList = true
  · refine (worded_good s w hs hG (isEmpty_no h0) (eq_no h1) hv).mono ?_
    rintro e w' ⟨rfl, hb⟩
    refine ⟨?_, hb⟩
    unfold wordL
    rw [if_neg h0, if_neg h1, if_pos hv]
  · have hv' : Lib.validD s.data.toList = false := by simpa using hv
    refine (worded_bad s w hs hG (isEmpty_no h0) (eq_no h1) hv').mono ?_
    rintro e w' ⟨rfl, hb⟩
    refine ⟨?_, hb⟩
    unfold wordL
    rw [if_neg h0, if_neg h1, if_neg hv]

end Go.Proofs.YtadncponjpdcmaaGreatDoor

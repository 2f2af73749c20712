/-
  lines.Word: walked: a text's word.
-/
import Derived.Test.YtadncponjpdcmaaGreatDoorHex
import Derived.Test.YtadncponjpdcmaaGreatDoorUtf
namespace Go.Proofs.YtadncponjpdcmaaGreatDoor
open Go.RowKit

theorem bld_below {R b : Nat} {bs : List Value} {w w' : World} (h : Bld R b bs w) (hb : Below w.heap.size w w') : Bld R b bs w' :=
  h.kept (S := fun _ => True) ⟨hb.os, hb.tape, hb.output, hb.size, fun k hk _ => hb.block k hk⟩ trivial (fun _ _ => trivial)

theorem enc1_keep {b : UInt8} (h : (32 : Int) < (b.toNat : Int) ∧ ¬ ((b.toNat : Int) = 127) ∧ ¬ ((b.toNat : Int) = 37)) : enc1 b = [b] := by
  unfold enc1 keepB
  rw [if_pos]
  simp
  omega
theorem enc1_not {b : UInt8} (h : ¬ ((32 : Int) < (b.toNat : Int) ∧ ¬ ((b.toNat : Int) = 127) ∧ ¬ ((b.toNat : Int) = 37))) : enc1 b = hexedL b := by
  unfold enc1 keepB
  rw [if_neg]
  simp
  omega
theorem one_size (b : UInt8) : (⟨#[b]⟩ : ByteArray).size = 1 := rfl

theorem keep_iterAt (w : World) (k : Nat) (s : ByteArray) (pos : Nat) : Keep (fun i => i ≠ k) w (w.iterAt k s pos) :=
  ⟨rfl, rfl, rfl, by rw [Lib.iterAt_size]; exact Nat.le_refl _, fun i _ hi => Lib.iterAt_other w k i s pos hi⟩

set_option maxHeartbeats 1000000 in
set_option maxRecDepth 100000 in
theorem Word_nil (w : World) : Calls Tryz.prog 20 #[.string ⟨#[]⟩] w fun e w' => e = .returned (str [45]) ∧ w' = w := by
  go_enter Tryz.func20, Tryz.ntmps20
  go_wp2
  go_ret
  exact ⟨rfl, rfl⟩

set_option maxHeartbeats 1000000 in
set_option maxRecDepth 100000 in
theorem Word_dash (w : World) : Calls Tryz.prog 20 #[.string ⟨#[45]⟩] w fun e w' => e = .returned (str [37, 50, 100]) ∧ Below w.heap.size w w' := by
  go_enter Tryz.func20, Tryz.ntmps20
  go_wp2_with (go_at_call 47; refine (hex_any _ _ (by decide)).mono ?_; rintro e w' ⟨rfl, hb⟩)
  go_ret
  exact ⟨rfl, hb⟩


set_option maxHeartbeats 1000000 in
set_option maxRecDepth 100000 in
theorem Word_bad (s : ByteArray) (w : World) (hs : s.size ≤ 1000000000) (hG : Glob w) (h0 : s.toList.isEmpty = false) (h1 : (s.toList == [45]) = false) (hv : Lib.validD s.data.toList = false) : Calls Tryz.prog 20 #[.string s] w fun e w' => e = .returned (str (s.data.toList.flatMap hexedL)) ∧ Below w.heap.size w w' := by
  have hT := hG.tabs
  have c := Tryz.utf8_ValidString s w (by omega) hT
  rw [hv] at c
  have C := Lib.hid c
  clear hG hT hv c
  go_enter Tryz.func20, Tryz.ntmps20
  go_wp2_with (go_at_call 46; refine C.out.mono ?_; rintro e w1 ⟨rfl, hb⟩)
  go_wp2_with (go_at_call 47; refine (hex_any _ _ hs).mono ?_; rintro e w2 ⟨rfl, hb2⟩)
  go_ret
  exact ⟨rfl, hb.trans (hb2.mono hb.size)⟩

set_option maxHeartbeats 1000000 in
set_option maxRecDepth 100000 in
theorem Word_good (s : ByteArray) (w : World) (hs : s.size ≤ 1000000000) (hG : Glob w) (h0 : s.toList.isEmpty = false) (h1 : (s.toList == [45]) = false) (hv : Lib.validD s.data.toList = true) : Calls Tryz.prog 20 #[.string s] w fun e w' => e = .returned (str (s.data.toList.flatMap enc1)) ∧ Below w.heap.size w w' := by
  have hT := hG.tabs
  have c := Tryz.utf8_ValidString s w (by omega) hT
  rw [hv] at c
  have C := Lib.hid c
  have HV := Lib.hid hv
  clear hG hT hv c
  go_enter Tryz.func20, Tryz.ntmps20
  go_wp2_with (go_at_call 46; refine C.out.mono ?_)
  rintro e w1 ⟨rfl, hb⟩
  go_wp2
  have hg := Lib.hid (show 0 ≤ w.heap.size from Nat.zero_le _)
  obtain ⟨b, hbe⟩ : ∃ b, b = w1.heap.size := ⟨_, rfl⟩
  have hit0 : ((w1.alloc (Obj.cells #[Value.pointer none, Value.slice none 0 0] 80)).iter s 0).heap[w1.heap.size + 1]? = some (.stringIter s 0) := by
    have := World.iter_heap (w1.alloc (.cells #[.pointer none, .slice none 0 0] 80)) s 0
    simpa using this
  have hbl0 : Bld (w1.heap.size + 2) w1.heap.size [] ((w1.alloc (Obj.cells #[Value.pointer none, Value.slice none 0 0] 80)).iter s 0) :=
    Bld.fresh ((Blk.new w1 80 _).alloc _)
  have hbw0 : Below w1.heap.size w1 ((w1.alloc (Obj.cells #[Value.pointer none, Value.slice none 0 0] 80)).iter s 0) :=
    ((Below.refl _ w1).alloc (Nat.le_refl _) _).alloc (by simp) _
  have HI0 := Lib.hid hit0
  have HL0 := Lib.hid hbl0
  have HB0 := Lib.hid hbw0
  clear hit0 hbl0 hbw0 hbe
  go_loopw [] (fun wr => ∃ pos : Nat, pos ≤ s.size ∧ Lib.validD (s.data.toList.drop pos) = true ∧ Bld (w1.heap.size + 2) w1.heap.size (Lib.byteCells ((s.data.toList.take pos).flatMap enc1)) wr ∧ wr.heap[w1.heap.size + 1]? = some (.stringIter s pos) ∧ Below w1.heap.size w1 wr) (fun wr => s.size - wr.iterPos (w1.heap.size + 1))
  case atStart => exact ⟨0, Nat.zero_le _, HV.out, HL0.out, HI0.out, HB0.out⟩
  case round =>
    obtain ⟨pos, hps, hva, hB, hit, hbw⟩ := hrel
    have hsz : w1.heap.size + 1 < wr.heap.size := (Array.getElem?_eq_some_iff.1 hit).1
    by_cases hp : pos < s.size
    · have hnx : ∀ ty, (Instr.next (.pointer (some ⟨w1.heap.size + 1, 0, none⟩)) true ty).run Tryz.prog wr = _ := fun ty => Lib.run_next_any_at wr (w1.heap.size + 1) s pos ty hit hp
      obtain ⟨q1, q2, q3, q4⟩ := valid_round s pos hp hva
      have hd1 := decode_le s pos
      generalize hr : (Utf8.decode s pos).1 = r at hnx q4 hd1
      generalize hwd : (Utf8.decode s pos).2 = wd at hnx q1 q2 q3 q4
      have hkp : Keep (fun i => i ≠ w1.heap.size + 1) wr (wr.iterAt (w1.heap.size + 1) s (pos + wd)) := keep_iterAt _ _ _ _
      have hB2 : Bld (w1.heap.size + 2) w1.heap.size _ (wr.iterAt (w1.heap.size + 1) s (pos + wd)) := hB.kept hkp (by omega) (by intro i hi; omega)
      have hit2 := Lib.iterAt_heap wr (w1.heap.size + 1) s pos (pos + wd) hit
      have hbw2 := Lib.below_iterAt hbw (k := w1.heap.size + 1) (by omega) s (pos + wd)
      have hsz2 : w1.heap.size + 2 ≤ (wr.iterAt (w1.heap.size + 1) s (pos + wd)).heap.size := by rw [Lib.iterAt_size]; omega
      have hl : (Lib.byteCells ((s.data.toList.take pos).flatMap enc1)).length ≤ 3000000000 := by
        rw [Lib.byteCells_length]
        have := flat_length enc1 (fun b => by unfold enc1; split <;> simp [hexedL]) (s.data.toList.take pos)
        have h2 : (s.data.toList.take pos).length ≤ pos := List.length_take_le _ _
        omega
      have hta := take_add s pos wd
      have HTA := Lib.hid hta
      have HIT := Lib.hid hit
      have HIT2 := Lib.hid hit2
      have HBW2 := Lib.hid hbw2
      have HQ3 := Lib.hid q3
      have HB2 := Lib.hid hB2
      clear hr hwd hkp hB hit hbw hva hta q3 hit2 hbw2 hB2
      by_cases hkeep : (32 : Int) < (r : Int) ∧ ¬ ((r : Int) = 127) ∧ ¬ ((r : Int) = 37)
      · obtain ⟨k1, k2, k3⟩ := hkeep
        have hpiece : ((s.data.toList.drop pos).take wd).flatMap enc1 = Lib.encodeRune (r : Int) := by
          rcases q4 with ⟨b, hb1, rfl, rfl, hb2⟩ | ⟨ha, hb1, hb2⟩
          · rw [hb1, encodeRune_small b hb2]
            simp only [List.take_succ_cons, List.take_zero, List.flatMap_cons, List.flatMap_nil, List.append_nil]
            exact enc1_keep ⟨k1, k2, k3⟩
          · rw [flat_high _ hb2, hb1]
        have HP := Lib.hid hpiece
        have k2' : ((r : Int) != 127) = true := by simp; omega
        have k3' : ((r : Int) != 37) = true := by simp; omega
        clear hpiece q4 k2 k3
        go_wp2_with (go_at_call 48; refine (bld_WriteRune _ _ _ _ (by omega) (by omega) _ HB2.out (by omega) hsz2).mono ?_)
        rintro e w3 ⟨rfl, hB3, hK3⟩
        go_wp2
        go_roundw
        case rel =>
          refine ⟨pos + wd, q2, HQ3.out, ?_, ?_, HBW2.out.trans (hK3.below_of (by omega) (by intro i hi; omega))⟩
          · rw [HTA.out, List.flatMap_append, HP.out, Lib.byteCells_append, Lib.byteCells_encodeRune]
            exact hB3
          · rw [hK3.block _ (by omega) (by omega)]; exact HIT2.out
        case measure =>
          have e2 : w3.heap[w1.heap.size + 1]? = some (.stringIter s (pos + wd)) := by rw [hK3.block _ (by omega) (by omega)]; exact HIT2.out
          simp only [World.iterPos, e2, HIT.out]
          omega
      · obtain ⟨b, hb1, rfl, rfl, hb2⟩ : ∃ b : UInt8, s.data.toList.drop pos = b :: s.data.toList.drop (pos + 1) ∧ wd = 1 ∧ r = b.toNat ∧ b.toNat < 128 := by
          rcases q4 with h | ⟨ha, _, _⟩
          · exact h
          · exfalso; apply hkeep; omega
        have hpiece : ((s.data.toList.drop pos).take 1).flatMap enc1 = hexedL b := by
          rw [hb1]
          simp only [List.take_succ_cons, List.take_zero, List.flatMap_cons, List.flatMap_nil, List.append_nil]
          exact enc1_not hkeep
        have HE : Hid (∀ wx, Calls Tryz.prog 47 #[.string (Utf8.encode (b.toNat : Int))] wx fun e w' => e = .returned (str (hexedL b)) ∧ Below wx.heap.size wx w') := by
          apply Lib.hid
          intro wx
          rw [encode_small b hb2]
          refine (hex_any ⟨#[b]⟩ wx (by rw [one_size]; omega)).mono ?_
          rintro e w' ⟨rfl, h⟩
          exact ⟨by simp, h⟩
        have HP := Lib.hid hpiece
        have HB1 := Lib.hid hb1
        clear hpiece q4 hb1
        have hcase : ¬ ((32 : Int) < (b.toNat : Int)) ∨ ((32 : Int) < (b.toNat : Int) ∧ (((b.toNat : Nat) : Int) != 127) = false) ∨ ((32 : Int) < (b.toNat : Int) ∧ (((b.toNat : Nat) : Int) != 127) = true ∧ (((b.toNat : Nat) : Int) != 37) = false) := by
          clear HE
          by_cases g : (32 : Int) < (b.toNat : Int)
          · by_cases g2 : ((b.toNat : Nat) : Int) = 127
            · exact .inr (.inl ⟨g, by simp [g2]⟩)
            · refine .inr (.inr ⟨g, by simpa using g2, ?_⟩)
              have : ((b.toNat : Nat) : Int) = 37 := Classical.byContradiction fun h => hkeep ⟨g, g2, h⟩
              simp [this]
          · exact .inl g
        clear hkeep
        rcases hcase with g | ⟨g, g2⟩ | ⟨g, g2, g3⟩
        all_goals
          go_wp2_with fail
          refine (HE.out _).mono ?_
          rintro e w3 ⟨rfl, hb3⟩
          have hB3 : Bld (w1.heap.size + 2) w1.heap.size _ w3 := bld_below HB2.out hb3
          have hsz3 : w1.heap.size + 2 ≤ w3.heap.size := by have := hb3.size; omega
          have HIT3 : Hid (w3.heap[w1.heap.size + 1]? = some (.stringIter s (pos + 1))) := by
            apply Lib.hid; rw [hb3.block _ (by omega)]; exact HIT2.out
          have hbw3 := HBW2.out.trans (hb3.mono (B' := w1.heap.size) (by omega))
          go_wp2_with (go_at_call 36; refine (bld_WriteString _ _ _ _ _ hB3 (by rw [Lib.size_eq]; simp [hexedL]; omega) hsz3).mono ?_)
          rintro e w4 ⟨rfl, hB4, hK4⟩
          go_wp2
          go_roundw
          case rel =>
            refine ⟨pos + 1, q2, HQ3.out, ?_, ?_, hbw3.trans (hK4.below_of (by omega) (by intro i hi; omega))⟩
            · rw [HTA.out, List.flatMap_append, HP.out, Lib.byteCells_append]
              simpa [Lib.strCells, Lib.byteCells, hexedL] using hB4
            · rw [hK4.block _ (by omega) (by omega)]; exact HIT3.out
          case measure =>
            have e2 : w4.heap[w1.heap.size + 1]? = some (.stringIter s (pos + 1)) := by rw [hK4.block _ (by omega) (by omega)]; exact HIT3.out
            simp only [World.iterPos, e2, HIT.out]
            omega
    · have hnx : ∀ ty, (Instr.next (.pointer (some ⟨w1.heap.size + 1, 0, none⟩)) true ty).run Tryz.prog wr = _ := fun ty => Lib.run_next_end_at wr (w1.heap.size + 1) s pos ty hit hp
      obtain rfl : pos = s.size := by omega
      rw [List.take_of_length_le (by simp)] at hB
      clear hit
      go_wp2_with (go_at_call 37; refine (bld_String _ _ _ _ hB (by omega)).mono ?_)
      rintro e w4 ⟨rfl, hb4⟩
      go_wp2
      go_ret
      exact ⟨rfl, hb.trans ((hbw.mono hb.size).trans (hb4.mono (by have := hb.size; omega)))⟩

theorem str_empty {s : ByteArray} (h : s.data.toList = []) : s = ⟨#[]⟩ := bytes_eq h
theorem isEmpty_no {s : ByteArray} (h : s.data.toList ≠ []) : s.toList.isEmpty = false := by
  rw [ByteArray.toList_eq]; simpa using h
theorem eq_no {s : ByteArray} {l : Bs} (h : s.data.toList ≠ l) : (s.toList == l) = false := by
  rw [ByteArray.toList_eq]; simpa using h

theorem Word_any (s : ByteArray) (w : World) (hs : s.size ≤ 1000000000) (hG : Glob w) :
    Calls Tryz.prog 20 #[.string s] w fun e w' => e = .returned (str (wordL s.data.toList)) ∧ Below w.heap.size w w' := by
  by_cases h0 : s.data.toList = []
  · obtain rfl := str_empty h0
    refine (Word_nil w).mono ?_
    rintro e w' ⟨rfl, rfl⟩
    exact ⟨rfl, Below.refl _ _⟩
  by_cases h1 : s.data.toList = [45]
  · obtain rfl := bytes_eq h1
    exact Word_dash w
  by_cases hv : Lib.validD s.data.toList = true
  · refine (Word_good s w hs hG (isEmpty_no h0) (eq_no h1) hv).mono ?_
    rintro e w' ⟨rfl, hb⟩
    refine ⟨?_, hb⟩
    unfold wordL
    rw [if_neg h0, if_neg h1, if_pos hv]
  · have hv' : Lib.validD s.data.toList = false := by simpa using hv
    refine (Word_bad s w hs hG (isEmpty_no h0) (eq_no h1) hv').mono ?_
    rintro e w' ⟨rfl, hb⟩
    refine ⟨?_, hb⟩
    unfold wordL
    rw [if_neg h0, if_neg h1, if_neg hv]

end Go.Proofs.YtadncponjpdcmaaGreatDoor

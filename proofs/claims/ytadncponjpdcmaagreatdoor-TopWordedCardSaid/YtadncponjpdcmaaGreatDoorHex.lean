/-
  hexed and hex: a byte, and bytes, as % and two digits.
-/
import Derived.Test.YtadncponjpdcmaaGreatDoorGlob
namespace Go.Proofs.YtadncponjpdcmaaGreatDoor
open Go.RowKit

theorem flat_length (enc : UInt8 → Bs) (he : ∀ b, (enc b).length ≤ 3) : ∀ s : Bs, (s.flatMap enc).length ≤ 3 * s.length := by
  intro s
  induction s with
  | nil => simp
  | cons b s ih => rw [List.flatMap_cons, List.length_append, List.length_cons]; have := he b; omega

theorem hex_piece (b : UInt8) : Lib.strCells (({ data := #[37] } : ByteArray) ++ ({ data := #[48, 49, 50, 51, 52, 53, 54, 55, 56, 57, 97, 98, 99, 100, 101, 102] } : ByteArray).extract (b.toNat / 16) (b.toNat / 16 + 1) ++
    ({ data := #[48, 49, 50, 51, 52, 53, 54, 55, 56, 57, 97, 98, 99, 100, 101, 102] } : ByteArray).extract (b.toNat % 16) (b.toNat % 16 + 1)) = Lib.byteCells (hexedL b) := by
  have key : ∀ n : Fin 16, (({ data := #[48, 49, 50, 51, 52, 53, 54, 55, 56, 57, 97, 98, 99, 100, 101, 102] } : ByteArray).extract n.val (n.val + 1)).data.toList = [hexDig n.val] := by decide +kernel
  have hb := b.toNat_lt
  have h1 := key ⟨b.toNat / 16, by omega⟩
  have h2 := key ⟨b.toNat % 16, by omega⟩
  simp only at h1 h2
  unfold Lib.strCells Lib.byteCells
  congr 1
  simp only [ByteArray.data_append, Array.toList_append, h1, h2]
  rfl
theorem hex_piece_size (b : UInt8) : (({ data := #[37] } : ByteArray) ++ ({ data := #[48, 49, 50, 51, 52, 53, 54, 55, 56, 57, 97, 98, 99, 100, 101, 102] } : ByteArray).extract (b.toNat / 16) (b.toNat / 16 + 1) ++
    ({ data := #[48, 49, 50, 51, 52, 53, 54, 55, 56, 57, 97, 98, 99, 100, 101, 102] } : ByteArray).extract (b.toNat % 16) (b.toNat % 16 + 1)).size = 3 := by
  have h := congrArg List.length (hex_piece b)
  rw [Lib.strCells_length, Lib.byteCells_length] at h
  simpa [hexedL] using h

set_option maxRecDepth 100000 in
theorem and15 : ∀ x : Fin 256, bits .and .u8 ((x.val : Nat) : Int) 15 = ((x.val : Nat) : Int) % 16 := by decide

theorem hexed_piece (b : UInt8) : (({ data := #[37] } : ByteArray) ++ ({ data := #[48, 49, 50, 51, 52, 53, 54, 55, 56, 57, 97, 98, 99, 100, 101, 102] } : ByteArray).extract (b.toNat / 16) (b.toNat / 16 + 1) ++
    ({ data := #[48, 49, 50, 51, 52, 53, 54, 55, 56, 57, 97, 98, 99, 100, 101, 102] } : ByteArray).extract (b.toNat % 16) (b.toNat % 16 + 1)) = ⟨(hexedL b).toArray⟩ := by
  have key : ∀ n : Fin 16, (({ data := #[48, 49, 50, 51, 52, 53, 54, 55, 56, 57, 97, 98, 99, 100, 101, 102] } : ByteArray).extract n.val (n.val + 1)).data.toList = [hexDig n.val] := by decide +kernel
  have hb := b.toNat_lt
  have h1 := key ⟨b.toNat / 16, by omega⟩
  have h2 := key ⟨b.toNat % 16, by omega⟩
  simp only at h1 h2
  refine bytes_eq ?_
  simp only [ByteArray.data_append, Array.toList_append, h1, h2]
  rfl

set_option maxHeartbeats 400000 in
theorem hexed_any (b : UInt8) (w : World) :
    Calls Tryz.prog 26 #[.int .u8 b.toNat] w fun e w' => e = .returned (str (hexedL b)) ∧ ∃ n, w' = w.drewN n := by
  have hb := b.toNat_lt
  have h1 : (0 : Int) ≤ b.toNat := by omega
  have h2 : ((b.toNat : Nat) : Int) < 256 := by omega
  have hp := hexed_piece b
  have HP := Lib.hid hp
  clear hp
  go_enter Tryz.func26, Tryz.ntmps26
  go_wp2
  go_quiet (fail)
  go_wp2
  go_ret
  exact ⟨ret_str HP.out, nq, rfl⟩

set_option maxHeartbeats 1000000 in
set_option maxRecDepth 100000 in
theorem hex_any (s : ByteArray) (w : World) (hs : s.size ≤ 1000000000) :
    Calls Tryz.prog 47 #[.string s] w fun e w' => e = .returned (str (s.data.toList.flatMap hexedL)) ∧ Below w.heap.size w w' := by
  obtain ⟨cap, w2, hrun, hcell, hk, hsz⟩ := conv_bytes s (w.alloc (.cells #[.pointer none, .slice none 0 0] 80))
  have hb0 : Bld (w.heap.size + 2) w.heap.size [] w2 := Bld.fresh ((Blk.new w 80 _).kept hk trivial)
  have hz : w2.heap.size = w.heap.size + 2 := by rw [hsz]; simp
  have hbw : Below w.heap.size w w2 := ((Below.refl _ w).alloc (Nat.le_refl _) _).trans (hk.below_of (by simp) (fun _ _ => trivial))
  have hcell' : ∀ j, j < s.size → w2.cell? ⟨w.heap.size + 1, j, none⟩ = some (.int .u8 (s.data.toList.getD j 0).toNat) := by
    intro j hj; have := hcell j hj; simpa using this
  have HC := Lib.hid hcell'
  have HZ := Lib.hid hz
  have HB := Lib.hid hb0
  have HBW := Lib.hid hbw
  have HK := Lib.hid hk
  clear hcell hcell' hz hsz hb0 hbw hk
  simp only [World.alloc_eq, World.size_alloc] at hrun
  go_enter Tryz.func47, Tryz.ntmps47
  go_wp2
  go_loopw [9] (fun i wr => ∃ k : Nat, k ≤ s.size ∧ i = .int .i64 k ∧ Bld (w.heap.size + 2) w.heap.size (Lib.byteCells ((s.data.toList.take k).flatMap hexedL)) wr ∧ Keep (fun b => b < w.heap.size + 2 ∧ b ≠ w.heap.size) w2 wr) (fun i _ => s.size - (intOf i).toNat)
  case atStart => exact ⟨0, Nat.zero_le _, rfl, by simpa [Lib.byteCells] using HB.out, Keep.refl _ _⟩
  case round =>
    obtain ⟨k, hk, rfl, hB, hK⟩ := hrel
    by_cases hlt : k < s.size
    · have hcl : wr.cell? ⟨w.heap.size + 1, k, none⟩ = some (.int .u8 (s.data.toList.getD k 0).toNat) := by
        rw [hK.cell (p := ⟨w.heap.size + 1, k, none⟩) (by rw [HZ.out]; simp) (by simp)]; exact HC.out k hlt
      obtain ⟨b, hbv⟩ : ∃ b : UInt8, s.data.toList.getD k 0 = b := ⟨_, rfl⟩
      rw [hbv] at hcl
      have hb := b.toNat_lt
      have hb1 : (0 : Int) ≤ b.toNat := by omega
      have hb2 : ((b.toNat : Nat) : Int) < 256 := by omega
      go_wp2
      have e1 : IntKind.u8.wrap ((b.toNat : Int) / 16 + 1) = (b.toNat : Int) / 16 + 1 := IntWalk.u8_in _ (by omega)
      have e2 : (b.toNat : Int) / 16 + 1 ≤ 16 := by omega
      have e3 : (0 : Int) ≤ (b.toNat : Int) / 16 := by omega
      have e4 : (b.toNat : Int) / 16 ≤ (b.toNat : Int) / 16 + 1 := by omega
      have a0 : bits .and .u8 (b.toNat : Int) 15 = (b.toNat : Int) % 16 := and15 ⟨b.toNat, hb⟩
      have a1 : IntKind.u8.wrap ((b.toNat : Int) % 16 + 1) = (b.toNat : Int) % 16 + 1 := IntWalk.u8_in _ (by omega)
      have a2 : (b.toNat : Int) % 16 + 1 ≤ 16 := by omega
      have a3 : (0 : Int) ≤ (b.toNat : Int) % 16 := by omega
      have a4 : (b.toNat : Int) % 16 ≤ (b.toNat : Int) % 16 + 1 := by omega
      refine wp_region_still_tail 14 (by kernel_rfl) (by kernel_rfl) ?_
      simp only [List.take_succ_cons, List.take_zero, List.drop_succ_cons, List.drop_zero]
      iterate 14 (refine wpStill_step (fun K hK => ?_); go_simp; (first | refine hK _ ?_ | (rw [if_neg (by omega)]; go_simp; refine hK _ ?_)); clear hK K)
      refine wpStill_nil ?_
      change wpList _ _ _ _ _ wr.drew
      have hB2 : Bld (w.heap.size + 2) w.heap.size (Lib.byteCells ((s.data.toList.take k).flatMap hexedL)) wr.drew := hB
      have hl : (Lib.byteCells ((s.data.toList.take k).flatMap hexedL)).length ≤ 3000000000 := by
        rw [Lib.byteCells_length]
        have := flat_length hexedL (fun b => by simp [hexedL]) (s.data.toList.take k)
        have h2 : (s.data.toList.take k).length ≤ k := List.length_take_le _ _
        omega
      have hR : w.heap.size + 2 ≤ wr.drew.heap.size := by have := hK.size; rw [HZ.out] at this; exact this
      have hK2 : Keep (fun b => b < w.heap.size + 2 ∧ b ≠ w.heap.size) w2 wr.drew := hK.drew
      have hts := take_snoc s.data.toList k (by simpa using hlt)
      rw [hbv] at hts
      have HTS := Lib.hid hts
      clear hB hK hcl hts hbv
      generalize wr.drew = w3 at hB2 hR hK2 ⊢
      go_wp2_with (go_at_call 36; refine (bld_WriteString _ _ _ _ _ hB2 (by rw [hex_piece_size b]; omega) hR).mono ?_)
      rintro e w4 ⟨rfl, hB4, hK4⟩
      rw [hex_piece b, ← Lib.byteCells_append] at hB4
      go_wp2
      go_roundw
      case rel =>
        refine ⟨k + 1, by omega, by go_num, ?_, hK2.trans hK4⟩
        rw [HTS.out, List.flatMap_append]
        simpa using hB4
      case measure => simp [intOf]; omega
    · have hR : w.heap.size + 2 ≤ wr.heap.size := by have := hK.size; rw [HZ.out] at this; exact this
      obtain rfl : k = s.size := by omega
      rw [List.take_of_length_le (by simp)] at hB
      go_wp2_with (go_at_call 37; refine (bld_String _ _ _ _ hB hR).mono ?_)
      rintro e w4 ⟨rfl, hb4⟩
      go_wp2
      go_ret
      exact ⟨rfl, HBW.out.trans ((hK.below_of (B := w.heap.size) (by rw [HZ.out]; omega) (by intro i hi; omega)).trans (hb4.mono (by omega)))⟩
end Go.Proofs.YtadncponjpdcmaaGreatDoor

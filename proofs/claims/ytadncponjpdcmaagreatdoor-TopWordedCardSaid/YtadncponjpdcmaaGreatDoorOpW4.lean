/-
  The coder's op, writing a run.
-/
import Derived.Test.YtadncponjpdcmaaGreatDoorOpW
namespace Go.Proofs.YtadncponjpdcmaaGreatDoor
open Go.RowKit

set_option maxHeartbeats 2000000 in
set_option maxRecDepth 100000 in
theorem op_w4 (base K D : Nat) (df : Bool) (nm tx : Bs) (n0 n1 n2 n3 : Int) (w : World) (h : WrC base K [] false w) (hD : Blk w D 33 (opCells ⟨4, df, nm, tx, n0, n1, n2, n3⟩))
    (hdk : D < base ∧ D ≠ K ∧ 8 < base ∧ 8 ≤ K) (ho : OpOk ⟨4, df, nm, tx, n0, n1, n2, n3⟩) (hG : Glob w) :
    Calls Tryz.prog 10 #[.pointer (some ⟨K, 0, none⟩), .pointer (some ⟨D, 0, none⟩)] w (OpWPost base K ⟨4, df, nm, tx, n0, n1, n2, n3⟩ w) := by
  have hN := names_alloc w
  have hS := StW.start (w' := (w.alloc (.cells (nameL.map str).toArray 9)).alloc (.cells #[.slice (some ⟨w.heap.size, 0, none⟩) 8 8] 29)) h hD hG (Nat.zero_le _) hdk
    (((Below.refl _ w).alloc (Nat.le_refl _) _).alloc (by simp) _)
  rw [names_lit] at hN hS
  have HN := Lib.hid hN
  have HS := Lib.hid hS
  have HO := Lib.hid ho
  clear hN h hG hD ho hS hdk
  go_enter Tryz.func10, Tryz.ntmps10
  go_wp2_with fail
  refine (st_do HS.out (x := 4) rfl (by decide) (by decide) HN.out).mono ?_
  rintro e w1 ⟨rfl, h1⟩
  have d1 : w1.cell? ⟨D, 0, none⟩ = some (.int .u8 4) := h1.blk.cell 0
  have H1 := Lib.hid h1
  clear h1
  go_wp2_with fail
  have hrow : ∀ (wx : World), Blk ((wx.alloc (.cells #[Value.pointer (some ⟨D, 4, none⟩), Value.pointer (some ⟨D, 5, none⟩), Value.pointer (some ⟨D, 6, none⟩), Value.pointer (some ⟨D, 7, none⟩)] 75)).drew) wx.heap.size 75 #[Value.pointer (some ⟨D, 4, none⟩), Value.pointer (some ⟨D, 5, none⟩), Value.pointer (some ⟨D, 6, none⟩), Value.pointer (some ⟨D, 7, none⟩)] := fun wx => Blk.new wx 75 _
  have HROW := Lib.hid (hrow w1)
  have hS1 : StW base K D ⟨4, df, nm, tx, n0, n1, n2, n3⟩ ([] ++ [doW 4]) (false || longB (doW 4)) w ((w1.alloc (.cells #[Value.pointer (some ⟨D, 4, none⟩), Value.pointer (some ⟨D, 5, none⟩), Value.pointer (some ⟨D, 6, none⟩), Value.pointer (some ⟨D, 7, none⟩)] 75)).drew) := by
    have hb : Below w1.heap.size w1 ((w1.alloc (.cells #[Value.pointer (some ⟨D, 4, none⟩), Value.pointer (some ⟨D, 5, none⟩), Value.pointer (some ⟨D, 6, none⟩), Value.pointer (some ⟨D, 7, none⟩)] 75)).drew) := ((Below.refl _ w1).alloc (Nat.le_refl _) _).drew
    exact ⟨H1.out.wr.below hb, H1.out.blk.below hb H1.out.blk.lt, H1.out.glob.below hb H1.out.glob.size, H1.out.keep.trans (Keep.of_below hb (fun _ _ h => h)), H1.out.few, H1.out.dk⟩
  have HS1 := Lib.hid hS1
  clear hrow hS1 d1
  go_region
  go_wp2_with fail
  go_loopw [74] (fun i wr => ∃ (k : Nat), k ≤ 4 ∧ i = .int .i64 k ∧ StW base K D ⟨4, df, nm, tx, n0, n1, n2, n3⟩ (([n0, n1, n2, n3].take k).foldl (fun a x => a ++ [Lib.itoa x]) ([] ++ [doW 4])) (([n0, n1, n2, n3].take k).foldl (fun a x => a || longB (Lib.itoa x)) (false || longB (doW 4))) w wr ∧
      Blk wr w1.heap.size 75 #[Value.pointer (some ⟨D, 4, none⟩), Value.pointer (some ⟨D, 5, none⟩), Value.pointer (some ⟨D, 6, none⟩), Value.pointer (some ⟨D, 7, none⟩)]) (fun i _ => 4 - (intOf i).toNat)
  case atStart => exact ⟨0, by decide, rfl, HS1.out, HROW.out⟩
  case round =>
    obtain ⟨k, hk, rfl, hS, hR⟩ := hrel
    have hKr : ∀ w2, Lib.OthersKept 9 (some K) wr w2 → Blk w2 w1.heap.size 75 #[Value.pointer (some ⟨D, 4, none⟩), Value.pointer (some ⟨D, 5, none⟩), Value.pointer (some ⟨D, 6, none⟩), Value.pointer (some ⟨D, 7, none⟩)] := by
      intro w2 h
      have hne : w1.heap.size ≠ K := by obtain ⟨_, _, v, hk, _⟩ := hS.wr; exact hR.ne_ hk (by decide)
      exact h _ _ hR (fun e => hne (Option.some.inj e)) (by intro c fz e; cases e)
    have HKR := Lib.hid hKr
    have HS2 := Lib.hid hS
    have c0 : wr.cell? ⟨w1.heap.size, 0, none⟩ = some (.pointer (some ⟨D, 4, none⟩)) := hR.cell 0
    have c1 : wr.cell? ⟨w1.heap.size, 1, none⟩ = some (.pointer (some ⟨D, 5, none⟩)) := hR.cell 1
    have c2 : wr.cell? ⟨w1.heap.size, 2, none⟩ = some (.pointer (some ⟨D, 6, none⟩)) := hR.cell 2
    have c3 : wr.cell? ⟨w1.heap.size, 3, none⟩ = some (.pointer (some ⟨D, 7, none⟩)) := hR.cell 3
    clear hKr hS hR
    match k, hk with
    | 0, _ =>
      go_wp2_with fail
      refine (st_int HS2.out (off := 4) rfl HO.out.n0 (by simp only [List.take_zero, List.foldl_nil, List.nil_append, List.length_append, List.length_cons, List.length_nil]; omega)).mono ?_
      rintro e w3 ⟨rfl, h3, o3⟩
      have H3 := Lib.hid h3
      have HR3 := Lib.hid (HKR.out _ o3)
      clear h3 o3 c0 c1 c2 c3
      go_wp2
      go_roundw
      case rel => exact ⟨1, by decide, rfl, H3.out, HR3.out⟩
      case measure => simp [intOf]
    | 1, _ =>
      go_wp2_with fail
      refine (st_int HS2.out (off := 5) rfl HO.out.n1 (by simp)).mono ?_
      rintro e w3 ⟨rfl, h3, o3⟩
      have H3 := Lib.hid h3
      have HR3 := Lib.hid (HKR.out _ o3)
      clear h3 o3 c0 c1 c2 c3
      go_wp2
      go_roundw
      case rel => exact ⟨2, by decide, rfl, H3.out, HR3.out⟩
      case measure => simp [intOf]
    | 2, _ =>
      go_wp2_with fail
      refine (st_int HS2.out (off := 6) rfl HO.out.n2 (by simp)).mono ?_
      rintro e w3 ⟨rfl, h3, o3⟩
      have H3 := Lib.hid h3
      have HR3 := Lib.hid (HKR.out _ o3)
      clear h3 o3 c0 c1 c2 c3
      go_wp2
      go_roundw
      case rel => exact ⟨3, by decide, rfl, H3.out, HR3.out⟩
      case measure => simp [intOf]
    | 3, _ =>
      go_wp2_with fail
      refine (st_int HS2.out (off := 7) rfl HO.out.n3 (by simp)).mono ?_
      rintro e w3 ⟨rfl, h3, o3⟩
      have H3 := Lib.hid h3
      have HR3 := Lib.hid (HKR.out _ o3)
      clear h3 o3 c0 c1 c2 c3
      go_wp2
      go_roundw
      case rel => exact ⟨4, by decide, rfl, H3.out, HR3.out⟩
      case measure => simp [intOf]
    | 4, _ =>
      clear c0 c1 c2 c3
      go_wp2_with fail
      refine (st_str HS2.out (off := 3) rfl HO.out.tx (by simp)).mono ?_
      rintro e w3 ⟨rfl, h3⟩
      have H3 := Lib.hid h3
      clear h3
      go_wp2
      go_end0
      exact ⟨rfl, by simpa [wordsOf, badOf, Bool.or_assoc] using H3.out.wr, H3.out.keep⟩
    | n + 5, h => exact absurd h (by omega)

end Go.Proofs.YtadncponjpdcmaaGreatDoor

/-
  lines.Lines: walked, for ops that are read again as they were.
-/
import Derived.Test.YtadncponjpdcmaaGreatDoorParse
namespace Go.Proofs.YtadncponjpdcmaaGreatDoor
open Go.RowKit

/-- An op that is written and read again. -/
structure GoodOp (o : OpL) : Prop where
  kind : 1 ≤ o.d ∧ o.d ≤ 7
  ok : OpOk o
  good : badOf (wordsOf o) = false
  back : readL (wordsOf o) = (o, true)
  short : (lineL o).length ≤ 4000

theorem glue_length (ls : List Bs) (h : ∀ l ∈ ls, l.length ≤ 20000) : (glue ls).length ≤ ls.length * 20001 := by
  induction ls with
  | nil => simp [glue]
  | cons p r ih =>
    have := ih (fun q hq => h q (by simp [hq]))
    have := h p (by simp)
    rw [glue_cons, List.length_append, List.length_cons, List.length_cons, Nat.succ_mul]
    omega

theorem str_nl (l : Bs) : Value.string (⟨l.toArray⟩ ++ ⟨#[10]⟩) = str (l ++ [10]) := by
  congr 1
theorem cells_nl (l : Bs) : Lib.strCells (⟨l.toArray⟩ ++ ⟨#[10]⟩) = Lib.byteCells (l ++ [10]) := by
  unfold Lib.strCells Lib.byteCells
  simp [ByteArray.data_append]

set_option maxHeartbeats 8000000 in
set_option maxRecDepth 100000 in
theorem Lines_any (B : Nat) (A : Option Addr) (c : Nat) (os : List OpL) (w : World) (h : Reads w B 8 A os.length (opsCells os)) (hB : B ≤ w.heap.size) (hgood : ∀ o ∈ os, GoodOp o) (hlen : os.length ≤ 12) (hG : Glob w) :
    Calls Tryz.prog 21 #[.slice A os.length c] w fun e w' => e = .returned (.tuple #[str (glue (os.map lineL)), .int .i64 0]) ∧ Below w.heap.size w w' := by
  obtain ⟨w0, hw0⟩ : ∃ w0 : World, w0 = w.alloc (.cells #[.pointer none, .slice none 0 0] 80) := ⟨_, rfl⟩
  have hb0 : Below w.heap.size w w0 := by rw [hw0]; exact (Below.refl _ w).alloc (Nat.le_refl _) _
  have hs0 : w0.heap.size = w.heap.size + 1 := by rw [hw0]; simp
  have hB0 : Bld (w.heap.size + 1) w.heap.size [] w0 := by rw [hw0]; exact Bld.fresh (Blk.new w 80 _)
  have H := Lib.hid h
  have HGD := Lib.hid hgood
  have HG := Lib.hid hG
  have HB0 := Lib.hid hb0
  have HBL := Lib.hid hB0
  have HS0 := Lib.hid hs0
  have HW0 := Lib.hid hw0
  clear h hgood hG hb0 hB0 hs0 hw0
  go_enter Tryz.func21, Tryz.ntmps21
  go_wp2_with fail
  rw [← HW0.out]
  go_loopw [14]
    (fun u14 wx => ∃ k : Nat, k ≤ os.length ∧ u14 = .int .i64 k ∧ Bld (w.heap.size + 1) w.heap.size (Lib.byteCells (glue ((os.take k).map lineL))) wx ∧ Below w.heap.size w wx ∧ w.heap.size + 1 ≤ wx.heap.size)
    (fun u14 _ => (os.length - intOf u14).toNat)
  case atStart => exact ⟨0, by omega, rfl, by simpa [glue, Lib.byteCells] using HBL.out, HB0.out, by rw [HS0.out]; omega⟩
  case round =>
    obtain ⟨k, hk, rfl, hbl, hbw, hsz⟩ := hrel
    have hgl : ∀ k, (glue ((os.take k).map lineL)).length ≤ 12 * 20001 := fun k => by
      have h1 := glue_length ((os.take k).map lineL) (fun l hl => by
        obtain ⟨o, ho, rfl⟩ := List.mem_map.1 hl
        have := (HGD.out o (List.mem_of_mem_take ho)).short
        omega)
      have h2 : ((os.take k).map lineL).length ≤ 12 := by rw [List.length_map, List.length_take]; omega
      have := Nat.mul_le_mul_right 20001 h2
      omega
    have HGL := Lib.hid hgl
    have HBX := Lib.hid hbl
    have HBW := Lib.hid hbw
    clear hbl hbw hgl
    by_cases hlt : k < os.length
    · obtain ⟨ad, rfl, hadB, hc⟩ := H.out.2 (by omega)
      have hcell : ∀ t, t < 8 → ∀ u, (opCells os[k])[t]? = some u → wr.cell? ((ad.add (k * 8)).add t) = some u := fun t ht u hu => by
        rw [add_of_add, HBW.out.cell (by rw [block_of_add]; omega)]; exact hc _ u (by rw [opsCells_at os k t hlt ht]; exact hu)
      obtain ⟨p, hp⟩ : ∃ p, p = ad.add (k * 8) := ⟨_, rfl⟩
      rw [← hp] at hcell
      have hgo := HGD.out os[k] (List.getElem_mem hlt)
      have htk : os.take (k + 1) = os.take k ++ [os[k]] := List.take_succ_eq_append_getElem hlt
      generalize os[k] = o at hcell hgo htk
      have hgt : glue ((os.take (k + 1)).map lineL) = glue ((os.take k).map lineL) ++ (lineL o ++ [10]) := by
        rw [htk, List.map_append, glue_app]; simp [glue]
      have c6 : ∀ wx, Glob wx → Calls Tryz.prog 6 #[.agg (opCells o)] wx fun e w' => e = .returned (.tuple #[str (lineL o), .int .i64 0]) ∧ Below wx.heap.size wx w' :=
        fun wx hx => Line_any o wx hgo.kind hgo.ok hx hgo.good hgo.back
      have hls := hgo.short
      generalize lineL o = L at c6 hgt hls
      obtain ⟨d, df, nm, tx, m0, m1, m2, m3⟩ := o
      have x0 : wr.cell? (p.add 0) = some (.int .u8 d) := hcell 0 (by omega) _ rfl
      have x1 : wr.cell? ⟨p.block, p.off + 1, none⟩ = some (.bool df) := hcell 1 (by omega) _ rfl
      have x2 : wr.cell? ⟨p.block, p.off + 2, none⟩ = some (str nm) := hcell 2 (by omega) _ rfl
      have x3 : wr.cell? ⟨p.block, p.off + 3, none⟩ = some (str tx) := hcell 3 (by omega) _ rfl
      have x4 : wr.cell? ⟨p.block, p.off + 4, none⟩ = some (.int .i64 m0) := hcell 4 (by omega) _ rfl
      have x5 : wr.cell? ⟨p.block, p.off + 5, none⟩ = some (.int .i64 m1) := hcell 5 (by omega) _ rfl
      have x6 : wr.cell? ⟨p.block, p.off + 6, none⟩ = some (.int .i64 m2) := hcell 6 (by omega) _ rfl
      have x7 : wr.cell? ⟨p.block, p.off + 7, none⟩ = some (.int .i64 m3) := hcell 7 (by omega) _ rfl
      rw [add_zero'] at x0
      have HP := Lib.hid hp
      rw [hp] at x0 x1 x2 x3 x4 x5 x6 x7
      have hop : opCells ⟨d, df, nm, tx, m0, m1, m2, m3⟩ = #[.int .u8 d, .bool df, str nm, str tx, .int .i64 m0, .int .i64 m1, .int .i64 m2, .int .i64 m3] := rfl
      rw [hop] at c6
      have C6 := Lib.hid c6
      have HGT := Lib.hid hgt
      clear hc hcell hp c6 hgt htk hgo hop
      have hga := HG.out.below (HBW.out.alloc HBW.out.size (.cells #[.int .u8 d, .bool df, str nm, str tx, .int .i64 m0, .int .i64 m1, .int .i64 m2, .int .i64 m3] 33)) HG.out.size
      have HGA := Lib.hid hga
      clear hga
      go_wp2_with fail
      refine (C6.out _ HGA.out).mono ?_
      rintro e w1 ⟨rfl, hb1⟩
      have hb01 : Below wr.heap.size wr w1 := ((Below.refl _ wr).alloc (Nat.le_refl _) _).trans (hb1.mono (by simp))
      have hbl1 := bld_below HBX.out hb01
      have hbw1 := HBW.out.trans (hb01.mono HBW.out.size)
      have hsz1 := hb01.size
      have c36 := bld_WriteString (w.heap.size + 1) w.heap.size _ (⟨L.toArray⟩ ++ ⟨#[10]⟩) w1 hbl1 (by
        rw [Lib.byteCells_length, ByteArray.size_append']
        have := HGL.out k
        show _ + (L.toArray.size + 1) ≤ _
        rw [List.size_toArray]
        omega) (by omega)
      have C36 := Lib.hid c36
      have HBW1 := Lib.hid hbw1
      clear hb1 hb01 hbl1 hbw1 c36
      go_wp2_with fail
      refine C36.out.mono ?_
      rintro e w2 ⟨rfl, hbl2, hk2⟩
      have hbl3 : Bld (w.heap.size + 1) w.heap.size (Lib.byteCells (glue ((os.take (k + 1)).map lineL))) w2 := by
        rw [HGT.out, Lib.byteCells_append]
        rw [cells_nl] at hbl2
        exact hbl2
      have hbw2 : Below w.heap.size w w2 := HBW1.out.trans (hk2.below_of HBW1.out.size (by intro i hi; omega))
      have hsz2 := hk2.size
      have HBL3 := Lib.hid hbl3
      have HBW2 := Lib.hid hbw2
      clear hbl2 hk2 hbl3 hbw2
      go_wp2_with fail
      go_roundw
      case rel => exact ⟨k + 1, by omega, by go_num, HBL3.out, HBW2.out, by omega⟩
      case measure => simp [intOf]; omega
    · obtain rfl : k = os.length := by omega
      have hb : Bld (w.heap.size + 1) w.heap.size (Lib.byteCells (glue (os.map lineL))) wr := by have := HBX.out; rwa [List.take_length] at this
      have hl : (Lib.byteCells (glue (os.map lineL))).length ≤ 1000000 := by
        rw [Lib.byteCells_length]
        have := HGL.out os.length
        rw [List.take_length] at this
        omega
      have c49 := Tryz.Builder_Len_f (min (w.heap.size + 1) w.heap.size) w.heap.size _ wr hb.isF
      have hni : ¬ ((1048576 : Int) < ((Lib.byteCells (glue (os.map lineL))).length : Int)) := by omega
      have c37 := bld_String (w.heap.size + 1) w.heap.size _ wr hb hsz
      have C49 := Lib.hid c49
      have C37 := Lib.hid c37
      clear hb hl c49 c37
      go_wp2_with fail
      refine C49.out.mono ?_
      rintro e w1 ⟨rfl, rfl⟩
      go_wp2_with fail
      refine C37.out.mono ?_
      rintro e w2 ⟨rfl, hb2⟩
      have hb3 := HBW.out.trans (hb2.mono (by omega))
      have HB3 := Lib.hid hb3
      clear hb2 hb3
      go_wp2_with fail
      go_ret2
      exact ⟨rfl, HB3.out⟩
end Go.Proofs.YtadncponjpdcmaaGreatDoor

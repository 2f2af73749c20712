/-
  lines.Line: walked, for an op that is read again as it was.
-/
import Derived.Test.YtadncponjpdcmaaGreatDoorReadOp
namespace Go.Proofs.YtadncponjpdcmaaGreatDoor
open Go.RowKit


theorem three_blocks (w : World) (o1 o2 o3 : Array Value) (t1 t2 t3 : TypeId) :
    Blk (((w.alloc (.cells o1 t1)).alloc (.cells o2 t2)).alloc (.cells o3 t3)).drew w.heap.size t1 o1 ∧
    Blk (((w.alloc (.cells o1 t1)).alloc (.cells o2 t2)).alloc (.cells o3 t3)).drew (w.heap.size + 1) t2 o2 ∧
    Blk (((w.alloc (.cells o1 t1)).alloc (.cells o2 t2)).alloc (.cells o3 t3)).drew (w.heap.size + 1 + 1) t3 o3 ∧
    Below w.heap.size w (((w.alloc (.cells o1 t1)).alloc (.cells o2 t2)).alloc (.cells o3 t3)).drew ∧
    (((w.alloc (.cells o1 t1)).alloc (.cells o2 t2)).alloc (.cells o3 t3)).drew.heap.size = w.heap.size + 3 := by
  have h2 := Blk.new (w.alloc (.cells o1 t1)) t2 o2
  have h3 := Blk.new ((w.alloc (.cells o1 t1)).alloc (.cells o2 t2)) t3 o3
  simp only [World.size_alloc] at h2 h3
  exact ⟨((Blk.new w t1 o1).alloc _).alloc _, h2.alloc _, h3, ((((Below.refl _ w).alloc (Nat.le_refl _) _).alloc (by simp) _).alloc (by simp; omega) _).drew, by simp⟩

theorem line_blocks1 (w : World) (o : OpL) : Blk (((w.alloc (Obj.cells #[Value.int IntKind.u8 ↑o.d, Value.bool o.df, str o.nm, str o.tx, Value.int IntKind.i64 o.n0, Value.int IntKind.i64 o.n1, Value.int IntKind.i64 o.n2, Value.int IntKind.i64 o.n3] 33)).alloc (Obj.cells #[Value.slice none 0 0, Value.bool false, Value.bool false] 45)).alloc (Obj.cells #[Value.int IntKind.u8 ↑o.d, Value.bool o.df, str o.nm, str o.tx, Value.int IntKind.i64 o.n0, Value.int IntKind.i64 o.n1, Value.int IntKind.i64 o.n2, Value.int IntKind.i64 o.n3] 33)).drew w.heap.size 33 (opCells o) ∧ Blk (((w.alloc (Obj.cells #[Value.int IntKind.u8 ↑o.d, Value.bool o.df, str o.nm, str o.tx, Value.int IntKind.i64 o.n0, Value.int IntKind.i64 o.n1, Value.int IntKind.i64 o.n2, Value.int IntKind.i64 o.n3] 33)).alloc (Obj.cells #[Value.slice none 0 0, Value.bool false, Value.bool false] 45)).alloc (Obj.cells #[Value.int IntKind.u8 ↑o.d, Value.bool o.df, str o.nm, str o.tx, Value.int IntKind.i64 o.n0, Value.int IntKind.i64 o.n1, Value.int IntKind.i64 o.n2, Value.int IntKind.i64 o.n3] 33)).drew (w.heap.size + 1) 45 #[Value.slice none 0 0, Value.bool false, Value.bool false] ∧ Blk (((w.alloc (Obj.cells #[Value.int IntKind.u8 ↑o.d, Value.bool o.df, str o.nm, str o.tx, Value.int IntKind.i64 o.n0, Value.int IntKind.i64 o.n1, Value.int IntKind.i64 o.n2, Value.int IntKind.i64 o.n3] 33)).alloc (Obj.cells #[Value.slice none 0 0, Value.bool false, Value.bool false] 45)).alloc (Obj.cells #[Value.int IntKind.u8 ↑o.d, Value.bool o.df, str o.nm, str o.tx, Value.int IntKind.i64 o.n0, Value.int IntKind.i64 o.n1, Value.int IntKind.i64 o.n2, Value.int IntKind.i64 o.n3] 33)).drew (w.heap.size + 1 + 1) 33 (opCells o) ∧ Below w.heap.size w (((w.alloc (Obj.cells #[Value.int IntKind.u8 ↑o.d, Value.bool o.df, str o.nm, str o.tx, Value.int IntKind.i64 o.n0, Value.int IntKind.i64 o.n1, Value.int IntKind.i64 o.n2, Value.int IntKind.i64 o.n3] 33)).alloc (Obj.cells #[Value.slice none 0 0, Value.bool false, Value.bool false] 45)).alloc (Obj.cells #[Value.int IntKind.u8 ↑o.d, Value.bool o.df, str o.nm, str o.tx, Value.int IntKind.i64 o.n0, Value.int IntKind.i64 o.n1, Value.int IntKind.i64 o.n2, Value.int IntKind.i64 o.n3] 33)).drew ∧ (((w.alloc (Obj.cells #[Value.int IntKind.u8 ↑o.d, Value.bool o.df, str o.nm, str o.tx, Value.int IntKind.i64 o.n0, Value.int IntKind.i64 o.n1, Value.int IntKind.i64 o.n2, Value.int IntKind.i64 o.n3] 33)).alloc (Obj.cells #[Value.slice none 0 0, Value.bool false, Value.bool false] 45)).alloc (Obj.cells #[Value.int IntKind.u8 ↑o.d, Value.bool o.df, str o.nm, str o.tx, Value.int IntKind.i64 o.n0, Value.int IntKind.i64 o.n1, Value.int IntKind.i64 o.n2, Value.int IntKind.i64 o.n3] 33)).drew.heap.size = w.heap.size + 3 := by
  obtain ⟨a, b, c, d, e⟩ := three_blocks w (opCells o) #[Value.slice none 0 0, Value.bool false, Value.bool false] (opCells o) 33 45 33
  exact ⟨a, b, c, d, e⟩
theorem line_blocks2 (w : World) (o : OpL) : Blk (((w.alloc (Obj.cells #[Value.int IntKind.u8 ↑o.d, Value.bool o.df, str o.nm, str o.tx, Value.int IntKind.i64 o.n0, Value.int IntKind.i64 o.n1, Value.int IntKind.i64 o.n2, Value.int IntKind.i64 o.n3] 33)).alloc (Obj.cells #[Value.int IntKind.u8 ↑o.d, Value.bool o.df, str o.nm, str o.tx, Value.int IntKind.i64 o.n0, Value.int IntKind.i64 o.n1, Value.int IntKind.i64 o.n2, Value.int IntKind.i64 o.n3] 33)).alloc (Obj.cells #[Value.slice none 0 0, Value.bool false, Value.bool false] 45)).drew w.heap.size 33 (opCells o) ∧ Blk (((w.alloc (Obj.cells #[Value.int IntKind.u8 ↑o.d, Value.bool o.df, str o.nm, str o.tx, Value.int IntKind.i64 o.n0, Value.int IntKind.i64 o.n1, Value.int IntKind.i64 o.n2, Value.int IntKind.i64 o.n3] 33)).alloc (Obj.cells #[Value.int IntKind.u8 ↑o.d, Value.bool o.df, str o.nm, str o.tx, Value.int IntKind.i64 o.n0, Value.int IntKind.i64 o.n1, Value.int IntKind.i64 o.n2, Value.int IntKind.i64 o.n3] 33)).alloc (Obj.cells #[Value.slice none 0 0, Value.bool false, Value.bool false] 45)).drew (w.heap.size + 1 + 1) 45 #[Value.slice none 0 0, Value.bool false, Value.bool false] ∧ Blk (((w.alloc (Obj.cells #[Value.int IntKind.u8 ↑o.d, Value.bool o.df, str o.nm, str o.tx, Value.int IntKind.i64 o.n0, Value.int IntKind.i64 o.n1, Value.int IntKind.i64 o.n2, Value.int IntKind.i64 o.n3] 33)).alloc (Obj.cells #[Value.int IntKind.u8 ↑o.d, Value.bool o.df, str o.nm, str o.tx, Value.int IntKind.i64 o.n0, Value.int IntKind.i64 o.n1, Value.int IntKind.i64 o.n2, Value.int IntKind.i64 o.n3] 33)).alloc (Obj.cells #[Value.slice none 0 0, Value.bool false, Value.bool false] 45)).drew (w.heap.size + 1) 33 (opCells o) ∧ Below w.heap.size w (((w.alloc (Obj.cells #[Value.int IntKind.u8 ↑o.d, Value.bool o.df, str o.nm, str o.tx, Value.int IntKind.i64 o.n0, Value.int IntKind.i64 o.n1, Value.int IntKind.i64 o.n2, Value.int IntKind.i64 o.n3] 33)).alloc (Obj.cells #[Value.int IntKind.u8 ↑o.d, Value.bool o.df, str o.nm, str o.tx, Value.int IntKind.i64 o.n0, Value.int IntKind.i64 o.n1, Value.int IntKind.i64 o.n2, Value.int IntKind.i64 o.n3] 33)).alloc (Obj.cells #[Value.slice none 0 0, Value.bool false, Value.bool false] 45)).drew ∧ (((w.alloc (Obj.cells #[Value.int IntKind.u8 ↑o.d, Value.bool o.df, str o.nm, str o.tx, Value.int IntKind.i64 o.n0, Value.int IntKind.i64 o.n1, Value.int IntKind.i64 o.n2, Value.int IntKind.i64 o.n3] 33)).alloc (Obj.cells #[Value.int IntKind.u8 ↑o.d, Value.bool o.df, str o.nm, str o.tx, Value.int IntKind.i64 o.n0, Value.int IntKind.i64 o.n1, Value.int IntKind.i64 o.n2, Value.int IntKind.i64 o.n3] 33)).alloc (Obj.cells #[Value.slice none 0 0, Value.bool false, Value.bool false] 45)).drew.heap.size = w.heap.size + 3 := by
  obtain ⟨a, b, c, d, e⟩ := three_blocks w (opCells o) (opCells o) #[Value.slice none 0 0, Value.bool false, Value.bool false] 33 33 45
  exact ⟨a, c, b, d, e⟩

theorem wordsOf_few (o : OpL) : (wordsOf o).length ≤ 6 := by
  unfold wordsOf; split <;> simp
theorem wordsOf_pos (o : OpL) : 0 < (wordsOf o).length := by
  unfold wordsOf; simp

theorem words_row {o : OpL} {w : World} {base : Nat} {v : Value} (h : w.ownsRow base 9 1 v (wordsOf o).length ((wordsOf o).map str)) :
    ∃ g cap, v = .slice (some ⟨g, 0, none⟩) (wordsOf o).length cap ∧ base ≤ g ∧ (wordsOf o).length ≤ cap ∧ cap ≤ maxLen ∧
      (∀ j, j < (wordsOf o).length → w.cell? ⟨g, j, none⟩ = some (.string (((wordsOf o).map fun l => (⟨l.toArray⟩ : ByteArray)).getD j ByteArray.empty))) ∧ g < w.heap.size := by
  have hpos := wordsOf_pos o
  rcases h.2 with ⟨_, h0⟩ | ⟨g, cap, cur, rfl, hg, hh, h1, h2, _⟩
  · omega
  · refine ⟨g, cap, rfl, hg, h1, h2, ?_, (Array.getElem?_eq_some_iff.1 hh).1⟩
    intro j hj
    have := h.cells (g := g) rfl j (str (wordsOf o)[j]) (by simp [hj])
    have ha : (⟨g, 0, none⟩ : Addr).add j = ⟨g, j, none⟩ := by unfold Addr.add; split <;> simp_all
    rw [ha] at this
    rw [this]
    simp [List.getD, hj]

theorem take_all_words (o : OpL) : ((((wordsOf o).map fun l => (⟨l.toArray⟩ : ByteArray)).take (wordsOf o).length).map Value.string) = (wordsOf o).map str := by
  rw [List.take_of_length_le (by simp)]; simp

theorem short_of_good {ws : List Bs} (h : badOf ws = false) : ∀ s ∈ ws, s.length ≤ 131072 := by
  intro s hs
  unfold badOf at h
  rw [List.any_eq_false] at h
  have := h s hs
  unfold longB at this
  simp at this
  omega

theorem lens_le (m : Nat) : ∀ ws : List Bs, (∀ s ∈ ws, s.length ≤ m) → Lib.lens ws ≤ ws.length * m
  | [], _ => by simp [Lib.lens]
  | a :: r, h => by
    have ih := lens_le m r (fun s hs => h s (by simp [hs]))
    have ha := h a (by simp)
    unfold Lib.lens at ih ⊢
    rw [List.map_cons, List.sum_cons, List.length_cons, Nat.succ_mul]
    omega

theorem join_le {o : OpL} (h : badOf (wordsOf o) = false) : (Lib.join (wordsOf o) [32]).length ≤ 1000000 := by
  have hs := short_of_good h
  have hf := wordsOf_few o
  have hl := lens_le 131072 _ hs
  cases hw : wordsOf o with
  | nil => simp [Lib.join]
  | cons x r =>
    rw [hw] at hl hf
    rw [Lib.join_length]
    simp at hf hl ⊢
    omega

set_option maxHeartbeats 4000000 in
set_option maxRecDepth 100000 in
theorem Line_any (o : OpL) (w : World) (hd : 1 ≤ o.d ∧ o.d ≤ 7) (ho : OpOk o) (hG : Glob w) (hgood : badOf (wordsOf o) = false) (hrd : readL (wordsOf o) = (o, true)) :
    Calls Tryz.prog 6 #[.agg (opCells o)] w fun e w' => e = .returned (.tuple #[str (Lib.join (wordsOf o) [32]), .int .i64 0]) ∧ Below w.heap.size w w' := by
  have HO := Lib.hid ho
  have HG := Lib.hid hG
  have HGOOD := Lib.hid hgood
  have HRD := Lib.hid hrd
  have HDD := Lib.hid hd
  have hop : opCells o = #[.int .u8 o.d, .bool o.df, str o.nm, str o.tx, .int .i64 o.n0, .int .i64 o.n1, .int .i64 o.n2, .int .i64 o.n3] := rfl
  rw [hop]
  clear ho hG hgood hrd hd hop
  go_enter Tryz.func6, Tryz.ntmps6
  go_wp2_with fail
  go_region
  · go_wp2_with fail
    obtain ⟨w1, hw1⟩ : ∃ w1 : World, w1 = (((w.alloc (Obj.cells #[Value.int IntKind.u8 ↑o.d, Value.bool o.df, str o.nm, str o.tx, Value.int IntKind.i64 o.n0, Value.int IntKind.i64 o.n1, Value.int IntKind.i64 o.n2, Value.int IntKind.i64 o.n3] 33)).alloc (Obj.cells #[Value.slice none 0 0, Value.bool false, Value.bool false] 45)).alloc (Obj.cells #[Value.int IntKind.u8 ↑o.d, Value.bool o.df, str o.nm, str o.tx, Value.int IntKind.i64 o.n0, Value.int IntKind.i64 o.n1, Value.int IntKind.i64 o.n2, Value.int IntKind.i64 o.n3] 33)).drew := ⟨_, rfl⟩
    obtain ⟨b0, bK, bD, hbw, hsz⟩ := line_blocks1 w o
    rw [← hw1] at b0 bK bD hbw hsz ⊢
    have hwr : WrC (w.heap.size + 3) (w.heap.size + 1) [] false w1 := ⟨by omega, by omega, _, bK, World.ownsRow_nil _ _ _ _⟩
    have hG1 : Glob w1 := HG.out.below hbw HG.out.size
    have h8 := HG.out.size
    have c10 := op_write (w.heap.size + 3) (w.heap.size + 1) (w.heap.size + 1 + 1) o w1 hwr bD (by omega) HDD.out HO.out hG1
    have C10 := Lib.hid c10
    have B0 := Lib.hid b0
    have HBW := Lib.hid hbw
    have HSZ := Lib.hid hsz
    have HG1 := Lib.hid hG1
    clear hw1 bK bD b0 hbw hsz hwr hG1 c10
    refine C10.out.mono ?_
    rintro e w2 ⟨rfl, ⟨_, hbase2, v, hk2, hown2⟩, hK2⟩
    rw [HGOOD.out] at hk2
    have hg2 : Glob w2 := HG1.out.keep hK2 (by intro i hi; omega)
    have b2 : Blk w2 w.heap.size 33 (opCells o) := B0.out.kept hK2 (by omega)
    have hbw2 : Below w.heap.size w w2 := HBW.out.trans (hK2.below_of (by have := HSZ.out; omega) (by intro i hi; omega))
    have hne0 : (wordsOf o).length ≤ 6 := wordsOf_few o
    obtain ⟨g, cap, rfl, hgb, hncap, hcapm, hcells, hglt⟩ := words_row (o := o) hown2
    have hR : Reads w2 w2.heap.size 1 (some ⟨g, 0, none⟩) (wordsOf o).length ((wordsOf o).map str) := Reads.of_own hown2
    have k0 : w2.cell? ⟨w.heap.size + 1, 0, none⟩ = some (.slice (some ⟨g, 0, none⟩) (wordsOf o).length cap) := hk2.cell 0
    have k2 : w2.cell? ⟨w.heap.size + 1, 2, none⟩ = some (.bool false) := hk2.cell 2
    have HCELLS := Lib.hid hcells
    have HG2 := Lib.hid hg2
    have HB2 := Lib.hid b2
    have HBW2 := Lib.hid hbw2
    have HK2 := Lib.hid hk2
    clear hk2 hown2 hK2 hg2 b2 hbw2 hcells hR
    go_wp2_with fail
    refine (Tryz.slices_Clone_string g 0 (wordsOf o).length cap ((wordsOf o).map fun l => (⟨l.toArray⟩ : ByteArray)) w2 (by simp) (by omega) (by
      intro j hj
      rw [Nat.zero_add]
      exact HCELLS.out j (by simpa using hj))).mono ?_
    rintro e w3 ⟨v', rfl, hown3, _, hb3⟩
    rw [take_all_words] at hown3
    obtain ⟨g3, cap3, rfl, _, hncap3, hcapm3, _, _⟩ := words_row (o := o) hown3
    have hR3 : Reads w3 w3.heap.size 1 (some ⟨g3, 0, none⟩) (wordsOf o).length ((wordsOf o).map str) := Reads.of_own hown3
    have hG3 : Glob w3 := HG2.out.below hb3 HG2.out.size
    have c11 := read_any w3.heap.size _ _ cap3 (wordsOf o) w3 hR3 hncap3 hcapm3 (Nat.le_refl _) hG3.size (fun s hs => Nat.le_trans (short_of_good HGOOD.out s hs) (by decide)) hG3 o true HRD.out
    have C11 := Lib.hid c11
    have HB3 := Lib.hid hb3
    have HSZ3 := Lib.hid hb3.size
    clear hown3 hR3 hG3 c11 hb3 hncap3 hcapm3
    go_wp2_with fail
    refine C11.out.mono ?_
    rintro e w4 ⟨rfl, hb4⟩
    have hb24 : Below w2.heap.size w2 w4 := HB3.out.trans (hb4.mono HSZ3.out)
    have b4 : Blk w4 w.heap.size 33 (opCells o) := HB2.out.below hb24 HB2.out.lt
    have hk4 := HK2.out.below hb24 HK2.out.lt
    have j0 : w4.cell? ⟨w.heap.size + 1, 0, none⟩ = some (.slice (some ⟨g, 0, none⟩) (wordsOf o).length cap) := hk4.cell 0
    have HB4 := Lib.hid b4
    have HB24 := Lib.hid hb24
    have x0 : w4.cell? ⟨w.heap.size, 0, none⟩ = some (.int .u8 o.d) := b4.cell 0
    have x1 : w4.cell? ⟨w.heap.size, 1, none⟩ = some (.bool o.df) := b4.cell 1
    have x2 : w4.cell? ⟨w.heap.size, 2, none⟩ = some (str o.nm) := b4.cell 2
    have x3 : w4.cell? ⟨w.heap.size, 3, none⟩ = some (str o.tx) := b4.cell 3
    have x4 : w4.cell? ⟨w.heap.size, 4, none⟩ = some (.int .i64 o.n0) := b4.cell 4
    have x5 : w4.cell? ⟨w.heap.size, 5, none⟩ = some (.int .i64 o.n1) := b4.cell 5
    have x6 : w4.cell? ⟨w.heap.size, 6, none⟩ = some (.int .i64 o.n2) := b4.cell 6
    have x7 : w4.cell? ⟨w.heap.size, 7, none⟩ = some (.int .i64 o.n3) := b4.cell 7
    have hsz4 : w.heap.size + 3 ≤ w4.heap.size := by have := HSZ3.out; have := hb4.size; omega
    have hl0 : w.heap.size < w4.heap.size := by omega
    have hl1 : w.heap.size + 1 < w4.heap.size := by omega
    have hl2 : w.heap.size + 1 + 1 < w4.heap.size := by omega
    have hop : opCells o = #[.int .u8 o.d, .bool o.df, str o.nm, str o.tx, .int .i64 o.n0, .int .i64 o.n1, .int .i64 o.n2, .int .i64 o.n3] := rfl
    rw [hop]
    clear b4 hk4 hb24 hb4 hop
    go_wp2_with fail
    have hb5 : Below w2.heap.size w2 (w4.alloc (Obj.cells #[Value.int IntKind.u8 ↑o.d, Value.bool o.df, str o.nm, str o.tx, Value.int IntKind.i64 o.n0, Value.int IntKind.i64 o.n1, Value.int IntKind.i64 o.n2, Value.int IntKind.i64 o.n3] 33)) := HB24.out.alloc (by have := HB24.out.size; omega) _
    have hmap : (((wordsOf o).map fun l => (⟨l.toArray⟩ : ByteArray)).map (·.data.toList)) = wordsOf o := by simp [Function.comp_def]
    have cj := Tryz.strings_Join g 0 cap ((wordsOf o).map fun l => (⟨l.toArray⟩ : ByteArray)) ⟨#[32]⟩ (w4.alloc (Obj.cells #[Value.int IntKind.u8 ↑o.d, Value.bool o.df, str o.nm, str o.tx, Value.int IntKind.i64 o.n0, Value.int IntKind.i64 o.n1, Value.int IntKind.i64 o.n2, Value.int IntKind.i64 o.n3] 33)) (by
      intro j x hj
      have hj2 : j < (wordsOf o).length := by
        have := (List.getElem?_eq_some_iff.1 hj).1
        simpa using this
      rw [Nat.zero_add, hb5.cell (p := ⟨g, j, none⟩) hglt, HCELLS.out j hj2, List.getD, hj]
      rfl) (by have := hb5.size; omega) (by simp; omega) (by simpa using hncap) (by rw [hmap]; have := join_le HGOOD.out; show (Lib.join (wordsOf o) [32]).length ≤ _; omega)
    rw [hmap] at cj
    simp only [List.length_map] at cj
    have CJ := Lib.hid cj
    have HB5 := Lib.hid hb5
    clear cj hb5 hmap
    refine CJ.out.mono ?_
    rintro e w6 ⟨rfl, hb6⟩
    have hb26 : Below w.heap.size w w6 := HBW2.out.trans ((HB5.out.trans (hb6.mono HB5.out.size)).mono HBW2.out.size)
    have HB26 := Lib.hid hb26
    clear hb26 hb6
    go_wp2
    go_ret2
    exact ⟨rfl, HB26.out⟩
  · go_wp2_with fail
    obtain ⟨w1, hw1⟩ : ∃ w1 : World, w1 = (((w.alloc (Obj.cells #[Value.int IntKind.u8 ↑o.d, Value.bool o.df, str o.nm, str o.tx, Value.int IntKind.i64 o.n0, Value.int IntKind.i64 o.n1, Value.int IntKind.i64 o.n2, Value.int IntKind.i64 o.n3] 33)).alloc (Obj.cells #[Value.int IntKind.u8 ↑o.d, Value.bool o.df, str o.nm, str o.tx, Value.int IntKind.i64 o.n0, Value.int IntKind.i64 o.n1, Value.int IntKind.i64 o.n2, Value.int IntKind.i64 o.n3] 33)).alloc (Obj.cells #[Value.slice none 0 0, Value.bool false, Value.bool false] 45)).drew := ⟨_, rfl⟩
    obtain ⟨b0, bK, bD, hbw, hsz⟩ := line_blocks2 w o
    rw [← hw1] at b0 bK bD hbw hsz ⊢
    have hwr : WrC (w.heap.size + 3) (w.heap.size + 1 + 1) [] false w1 := ⟨by omega, by omega, _, bK, World.ownsRow_nil _ _ _ _⟩
    have hG1 : Glob w1 := HG.out.below hbw HG.out.size
    have h8 := HG.out.size
    have c10 := op_write (w.heap.size + 3) (w.heap.size + 1 + 1) (w.heap.size + 1) o w1 hwr bD (by omega) HDD.out HO.out hG1
    have C10 := Lib.hid c10
    have B0 := Lib.hid b0
    have HBW := Lib.hid hbw
    have HSZ := Lib.hid hsz
    have HG1 := Lib.hid hG1
    clear hw1 bK bD b0 hbw hsz hwr hG1 c10
    refine C10.out.mono ?_
    rintro e w2 ⟨rfl, ⟨_, hbase2, v, hk2, hown2⟩, hK2⟩
    rw [HGOOD.out] at hk2
    have hg2 : Glob w2 := HG1.out.keep hK2 (by intro i hi; omega)
    have b2 : Blk w2 w.heap.size 33 (opCells o) := B0.out.kept hK2 (by omega)
    have hbw2 : Below w.heap.size w w2 := HBW.out.trans (hK2.below_of (by have := HSZ.out; omega) (by intro i hi; omega))
    have hne0 : (wordsOf o).length ≤ 6 := wordsOf_few o
    obtain ⟨g, cap, rfl, hgb, hncap, hcapm, hcells, hglt⟩ := words_row (o := o) hown2
    have hR : Reads w2 w2.heap.size 1 (some ⟨g, 0, none⟩) (wordsOf o).length ((wordsOf o).map str) := Reads.of_own hown2
    have k0 : w2.cell? ⟨w.heap.size + 1 + 1, 0, none⟩ = some (.slice (some ⟨g, 0, none⟩) (wordsOf o).length cap) := hk2.cell 0
    have k2 : w2.cell? ⟨w.heap.size + 1 + 1, 2, none⟩ = some (.bool false) := hk2.cell 2
    have HCELLS := Lib.hid hcells
    have HG2 := Lib.hid hg2
    have HB2 := Lib.hid b2
    have HBW2 := Lib.hid hbw2
    have HK2 := Lib.hid hk2
    clear hk2 hown2 hK2 hg2 b2 hbw2 hcells hR
    go_wp2_with fail
    refine (Tryz.slices_Clone_string g 0 (wordsOf o).length cap ((wordsOf o).map fun l => (⟨l.toArray⟩ : ByteArray)) w2 (by simp) (by omega) (by
      intro j hj
      rw [Nat.zero_add]
      exact HCELLS.out j (by simpa using hj))).mono ?_
    rintro e w3 ⟨v', rfl, hown3, _, hb3⟩
    rw [take_all_words] at hown3
    obtain ⟨g3, cap3, rfl, _, hncap3, hcapm3, _, _⟩ := words_row (o := o) hown3
    have hR3 : Reads w3 w3.heap.size 1 (some ⟨g3, 0, none⟩) (wordsOf o).length ((wordsOf o).map str) := Reads.of_own hown3
    have hG3 : Glob w3 := HG2.out.below hb3 HG2.out.size
    have c11 := read_any w3.heap.size _ _ cap3 (wordsOf o) w3 hR3 hncap3 hcapm3 (Nat.le_refl _) hG3.size (fun s hs => Nat.le_trans (short_of_good HGOOD.out s hs) (by decide)) hG3 o true HRD.out
    have C11 := Lib.hid c11
    have HB3 := Lib.hid hb3
    have HSZ3 := Lib.hid hb3.size
    clear hown3 hR3 hG3 c11 hb3 hncap3 hcapm3
    go_wp2_with fail
    refine C11.out.mono ?_
    rintro e w4 ⟨rfl, hb4⟩
    have hb24 : Below w2.heap.size w2 w4 := HB3.out.trans (hb4.mono HSZ3.out)
    have b4 : Blk w4 w.heap.size 33 (opCells o) := HB2.out.below hb24 HB2.out.lt
    have hk4 := HK2.out.below hb24 HK2.out.lt
    have j0 : w4.cell? ⟨w.heap.size + 1 + 1, 0, none⟩ = some (.slice (some ⟨g, 0, none⟩) (wordsOf o).length cap) := hk4.cell 0
    have HB4 := Lib.hid b4
    have HB24 := Lib.hid hb24
    have x0 : w4.cell? ⟨w.heap.size, 0, none⟩ = some (.int .u8 o.d) := b4.cell 0
    have x1 : w4.cell? ⟨w.heap.size, 1, none⟩ = some (.bool o.df) := b4.cell 1
    have x2 : w4.cell? ⟨w.heap.size, 2, none⟩ = some (str o.nm) := b4.cell 2
    have x3 : w4.cell? ⟨w.heap.size, 3, none⟩ = some (str o.tx) := b4.cell 3
    have x4 : w4.cell? ⟨w.heap.size, 4, none⟩ = some (.int .i64 o.n0) := b4.cell 4
    have x5 : w4.cell? ⟨w.heap.size, 5, none⟩ = some (.int .i64 o.n1) := b4.cell 5
    have x6 : w4.cell? ⟨w.heap.size, 6, none⟩ = some (.int .i64 o.n2) := b4.cell 6
    have x7 : w4.cell? ⟨w.heap.size, 7, none⟩ = some (.int .i64 o.n3) := b4.cell 7
    have hsz4 : w.heap.size + 3 ≤ w4.heap.size := by have := HSZ3.out; have := hb4.size; omega
    have hl0 : w.heap.size < w4.heap.size := by omega
    have hl1 : w.heap.size + 1 < w4.heap.size := by omega
    have hl2 : w.heap.size + 1 + 1 < w4.heap.size := by omega
    have hop : opCells o = #[.int .u8 o.d, .bool o.df, str o.nm, str o.tx, .int .i64 o.n0, .int .i64 o.n1, .int .i64 o.n2, .int .i64 o.n3] := rfl
    rw [hop]
    clear b4 hk4 hb24 hb4 hop
    go_wp2_with fail
    have hb5 : Below w2.heap.size w2 (w4.alloc (Obj.cells #[Value.int IntKind.u8 ↑o.d, Value.bool o.df, str o.nm, str o.tx, Value.int IntKind.i64 o.n0, Value.int IntKind.i64 o.n1, Value.int IntKind.i64 o.n2, Value.int IntKind.i64 o.n3] 33)) := HB24.out.alloc (by have := HB24.out.size; omega) _
    have hmap : (((wordsOf o).map fun l => (⟨l.toArray⟩ : ByteArray)).map (·.data.toList)) = wordsOf o := by simp [Function.comp_def]
    have cj := Tryz.strings_Join g 0 cap ((wordsOf o).map fun l => (⟨l.toArray⟩ : ByteArray)) ⟨#[32]⟩ (w4.alloc (Obj.cells #[Value.int IntKind.u8 ↑o.d, Value.bool o.df, str o.nm, str o.tx, Value.int IntKind.i64 o.n0, Value.int IntKind.i64 o.n1, Value.int IntKind.i64 o.n2, Value.int IntKind.i64 o.n3] 33)) (by
      intro j x hj
      have hj2 : j < (wordsOf o).length := by
        have := (List.getElem?_eq_some_iff.1 hj).1
        simpa using this
      rw [Nat.zero_add, hb5.cell (p := ⟨g, j, none⟩) hglt, HCELLS.out j hj2, List.getD, hj]
      rfl) (by have := hb5.size; omega) (by simp; omega) (by simpa using hncap) (by rw [hmap]; have := join_le HGOOD.out; show (Lib.join (wordsOf o) [32]).length ≤ _; omega)
    rw [hmap] at cj
    simp only [List.length_map] at cj
    have CJ := Lib.hid cj
    have HB5 := Lib.hid hb5
    clear cj hb5 hmap
    refine CJ.out.mono ?_
    rintro e w6 ⟨rfl, hb6⟩
    have hb26 : Below w.heap.size w w6 := HBW2.out.trans ((HB5.out.trans (hb6.mono HB5.out.size)).mono HBW2.out.size)
    have HB26 := Lib.hid hb26
    clear hb26 hb6
    go_wp2
    go_ret2
    exact ⟨rfl, HB26.out⟩

end Go.Proofs.YtadncponjpdcmaaGreatDoor

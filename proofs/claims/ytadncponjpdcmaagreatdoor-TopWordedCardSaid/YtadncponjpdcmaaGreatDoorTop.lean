/-
  TopWorded: walked.
-/
import Derived.Test.YtadncponjpdcmaaGreatDoorR32
import Derived.BigRegion
namespace Go.Proofs.YtadncponjpdcmaaGreatDoor
open Go.RowKit

/-- A verse cut to 200 bytes. -/
def clampV (v : VerseL) : VerseL := { v with nm := v.nm.take 200, tx := v.tx.take 200 }

/-- A verse as Go's types allow it. -/
structure VerseIn (v : VerseL) : Prop where
  k : v.k < 256
  nm : v.nm.length ≤ 9223372036854775807
  tx : v.tx.length ≤ 9223372036854775807
  c0 : int16 v.c0
  c1 : int16 v.c1
  c2 : int16 v.c2
  c3 : int16 v.c3

theorem clamp_ok {v : VerseL} (h : VerseIn v) : VerseOk (clampV v) :=
  ⟨h.k, by simp [clampV]; omega, by simp [clampV]; omega, h.c0, h.c1, h.c2, h.c3⟩

theorem versesCells_append (a b : List VerseL) : versesCells (a ++ b) = versesCells a ++ versesCells b := by simp [versesCells]

theorem reads_take {w : World} {B n m : Nat} {A : Option Addr} {vs : List VerseL} (h : Reads w B 8 A n (versesCells vs)) (hm : m ≤ n) : Reads w B 8 A m (versesCells (vs.take m)) := by
  have hvl : vs.length = n := by
    have h1 := h.1
    rw [versesCells_length] at h1
    omega
  refine ⟨by rw [versesCells_length, List.length_take]; congr 1; omega, fun h0 => ?_⟩
  obtain ⟨ad, hA, hB, hc⟩ := h.2 (by omega)
  refine ⟨ad, hA, hB, fun j u hj => hc j u ?_⟩
  have e : versesCells vs = versesCells (vs.take m) ++ versesCells (vs.drop m) := by
    rw [← versesCells_append, List.take_append_drop]
  rw [e, List.getElem?_append_left (List.getElem?_eq_some_iff.1 hj).1]
  exact hj

theorem set_mid {α : Type} (a b c : List α) (t : Nat) (u : α) (h : t < b.length) : (a ++ (b ++ c)).set (a.length + t) u = a ++ (b.set t u ++ c) := by
  rw [List.set_append_right _ _ (by omega), Nat.add_sub_cancel_left, List.set_append_left _ _ h]

theorem clamp_cells (pre post : List VerseL) (v : VerseL) (i k2 k3 : Nat) (hp : pre.length = i) (h2 : min v.nm.length 200 = k2) (h3 : min v.tx.length 200 = k3) :
    ((versesCells (pre ++ v :: post)).set (i * 8 + 2) (Value.string ((⟨v.nm.toArray⟩ : ByteArray).extract 0 k2))).set (i * 8 + 3) (Value.string ((⟨v.tx.toArray⟩ : ByteArray).extract 0 k3)) = versesCells (pre ++ (clampV v :: post)) := by
  have hl : (versesCells pre).length = i * 8 := by rw [versesCells_length, hp]
  have e : ∀ x : VerseL, versesCells (pre ++ x :: post) = versesCells pre ++ ((verseCells x).toList ++ versesCells post) := fun x => by simp [versesCells]
  have cutS : ∀ (l : Bs) (k : Nat), min l.length 200 = k → Value.string ((⟨l.toArray⟩ : ByteArray).extract 0 k) = str (l.take 200) := fun l k hk => by
    congr 1
    apply ByteArray.ext
    apply Array.ext'
    simp [ByteArray.data_extract]
    omega
  rw [e, e, cutS _ _ h2, cutS _ _ h3, ← hl, set_mid _ _ _ 2 _ (by simp [verseCells]), set_mid _ _ _ 3 _ (by simp [verseCells])]
  rfl

def knownV : List VerseL := [⟨0, true, [], [97, 32, 98], 0, 0, 0, 0⟩, ⟨3, false, [], [195, 169], 100, 50, 20, 9⟩, ⟨1, false, [109], [], 0, 0, 0, 0⟩]

/-- The lines of those, as the text has them. -/
def wantL : List Bs := [[112, 117, 116, 32, 100, 101, 102, 32, 97, 37, 50, 48, 98], [114, 117, 110, 32, 49, 48, 48, 32, 53, 48, 32, 50, 48, 32, 57, 32, 195, 169], [99, 111, 109, 112, 105, 108, 101, 32, 117, 110, 105, 116, 32, 109]]
theorem want_all : (knownV.map fun v => lineL (opV v)) = wantL := by decide +kernel
theorem want_line (j : Nat) (hj : j < 3) : wantL[j]? = some (lineL (opV (knownV[j]'(by simpa [knownV] using hj)))) := by
  rw [← want_all]
  have : j < knownV.length := by simpa [knownV] using hj
  simp [this]

theorem known_ok : VersesOk knownV := by
  refine ⟨by decide, ?_⟩
  intro v hv
  simp only [knownV, List.mem_cons, List.not_mem_nil, or_false] at hv
  rcases hv with rfl | rfl | rfl <;> constructor <;> first | decide | (unfold int16; decide)

set_option maxHeartbeats 8000000 in
set_option maxRecDepth 100000 in
theorem Top_any (B : Nat) (A Ab : Option Addr) (n c nb cb : Nat) (vs : List VerseL) (bl : List Nat) (which wh : Nat) (w : World)
    (h : Reads w B 8 A n (versesCells vs)) (hA : A = none → n = 0) (hnc : n ≤ c) (hb : Reads w B 1 Ab nb (bl.map fun k : Nat => Value.int .u8 k)) (hB : B ≤ w.heap.size) (hvs : ∀ v ∈ vs, VerseIn v) (hbl : ∀ k ∈ bl, k < 256) (hw1 : which < 256) (hw2 : wh < 256) (hn : n ≤ 9223372036854775807) (hG : Glob w) :
    Calls Tryz.prog 3 #[.slice A n c, .slice Ab nb cb, .int .u8 which, .int .u8 wh] w fun e w' => e = .returned (.bool true) ∧ Below w.heap.size w w' := by
  obtain ⟨m, hm⟩ : ∃ m, min n 12 = m := ⟨_, rfl⟩
  have hm12 : m ≤ 12 := by omega
  have hmn : m ≤ n := by omega
  have hmi : min (n : Int) 12 = (m : Int) := by omega
  have H := Lib.hid h
  have HA := Lib.hid hA
  have HBL := Lib.hid hb
  have HVS := Lib.hid hvs
  have HBB := Lib.hid hbl
  have HG := Lib.hid hG
  have HM := Lib.hid hm
  clear h hA hb hvs hbl hG hm
  go_enter Tryz.func3, Tryz.ntmps3
  go_wp2_with fail
  have hvl : vs.length = n := by
    have h1 := H.out.1
    rw [versesCells_length] at h1
    omega
  have c4 := CloneV_any B m c A (vs.take m) w (reads_take H.out hmn) (fun e => by have := HA.out e; omega) hm12 hB
  have C4 := Lib.hid c4
  clear c4
  refine C4.out.mono ?_
  rintro e w1 ⟨v', rfl, hown, hb1⟩
  obtain ⟨A1, c1, rfl, hmc, hcm⟩ := own_slice hown
  have HOWN := Lib.hid hown
  have HB1 := Lib.hid hb1
  clear hown hb1
  go_wp2_with fail
  go_loopg [26] (m + 1) (fun g u26 wx => ∃ i : Nat, i ≤ m ∧ g = m + 1 - i ∧ u26 = .int .i64 i ∧ wx.ownsRow w.heap.size 28 8 (.slice A1 m c1) m (versesCells (((vs.take m).take i).map clampV ++ (vs.take m).drop i)) ∧ Below w.heap.size w wx)
  case atStart => exact ⟨0, by omega, rfl, rfl, HOWN.out, HB1.out⟩
  case round =>
    obtain ⟨i, hi, rfl, rfl, hown, hbw⟩ := hrel
    have HBW := Lib.hid hbw
    clear hbw
    obtain rfl | him : i = m ∨ i < m := by omega
    · obtain ⟨ws, hws⟩ : ∃ ws, (vs.take i).map clampV = ws := ⟨_, rfl⟩
      have hown2 : wr.ownsRow w.heap.size 28 8 (.slice A1 i c1) i (versesCells ws) := by
        rw [List.take_take, Nat.min_self, List.drop_eq_nil_of_le (by rw [List.length_take]; omega), List.append_nil, hws] at hown
        exact hown
      have hwl : ws.length = i := by rw [← hws, List.length_map, List.length_take]; omega
      have hwo : VersesOk ws := ⟨by omega, fun x hx => by
        rw [← hws] at hx
        obtain ⟨y, hy, rfl⟩ := List.mem_map.1 hx
        exact clamp_ok (HVS.out y (List.mem_of_mem_take hy))⟩
      have HOW := Lib.hid hown2
      have HWO := Lib.hid hwo
      clear hown hown2 hwo hws
      obtain ⟨wq, hwq⟩ : ∃ wq : World, wq = wr := ⟨_, rfl⟩
      subst hwq
      obtain ⟨w2, hw2⟩ : ∃ w2 : World, w2 = (wq.alloc (.cells #[.int .u8 0, .bool true, .string ⟨#[]⟩, .string ⟨#[97, 32, 98]⟩, .int .i16 0, .int .i16 0, .int .i16 0, .int .i16 0, .int .u8 3, .bool false, .string ⟨#[]⟩, .string ⟨#[195, 169]⟩, .int .i16 100, .int .i16 50, .int .i16 20, .int .i16 9, .int .u8 1, .bool false, .string ⟨#[109]⟩, .string ⟨#[]⟩, .int .i16 0, .int .i16 0, .int .i16 0, .int .i16 0] 28)).alloc (.cells #[.string ⟨#[112, 117, 116, 32, 100, 101, 102, 32, 97, 37, 50, 48, 98]⟩, .string ⟨#[114, 117, 110, 32, 49, 48, 48, 32, 53, 48, 32, 50, 48, 32, 57, 32, 195, 169]⟩, .string ⟨#[99, 111, 109, 112, 105, 108, 101, 32, 117, 110, 105, 116, 32, 109]⟩] 9) := ⟨_, rfl⟩
      have hb12 : Below wq.heap.size wq w2 := by rw [hw2]; exact ((Below.refl _ wq).alloc (Nat.le_refl _) _).alloc (by simp) _
      have hK2 : Blk w2 wq.heap.size 28 (versesCells knownV).toArray := by rw [hw2]; exact (Blk.new wq 28 _).alloc _
      have hW2 : Blk w2 (wq.heap.size + 1) 9 (wantL.map str).toArray := by
        rw [hw2]
        have := Blk.new (wq.alloc (.cells #[.int .u8 0, .bool true, .string ⟨#[]⟩, .string ⟨#[97, 32, 98]⟩, .int .i16 0, .int .i16 0, .int .i16 0, .int .i16 0, .int .u8 3, .bool false, .string ⟨#[]⟩, .string ⟨#[195, 169]⟩, .int .i16 100, .int .i16 50, .int .i16 20, .int .i16 9, .int .u8 1, .bool false, .string ⟨#[109]⟩, .string ⟨#[]⟩, .int .i16 0, .int .i16 0, .int .i16 0, .int .i16 0] 28)) 9 (wantL.map str).toArray
        rw [World.size_alloc] at this
        exact this
      have HW2 := Lib.hid hw2
      have HB12 := Lib.hid hb12
      have HK2 := Lib.hid hK2
      have HWN := Lib.hid hW2
      clear hw2 hb12 hK2 hW2
      go_wp2_with fail
      rw [← HW2.out]
      go_loopg [72] 4 (fun g u72 wx => ∃ j : Nat, j ≤ 3 ∧ g = 4 - j ∧ u72 = .int .i64 j ∧ Below w2.heap.size w2 wx)
      case atStart => exact ⟨0, by omega, rfl, rfl, Below.refl _ _⟩
      case round =>
        obtain ⟨j, hj, rfl, rfl, hbx⟩ := hrel
        have HBX := Lib.hid hbx
        clear hbx
        obtain rfl | hj3 : j = 3 ∨ j < 3 := by omega
        · have hGx := HG.out.below ((HBW.out.trans (HB12.out.mono HBW.out.size)).trans (HBX.out.mono (Nat.le_trans HBW.out.size HB12.out.size))) HG.out.size
          have hrk : Reads wr w2.heap.size 8 (some ⟨wq.heap.size, 0, none⟩) knownV.length (versesCells knownV) := by
            refine ⟨versesCells_length _, fun _ => ⟨_, rfl, HK2.out.lt, fun j u hu => ?_⟩⟩
            rw [add_lit0, (HK2.out.below HBX.out HK2.out.lt).cell j, List.getElem?_toArray, hu]
          obtain ⟨w3, hw3⟩ : ∃ w3 : World, w3 = wr.alloc (.cells #[.int .u8 7, .int .u8 3, .int .u8 2] 5) := ⟨_, rfl⟩
          have hb3 : Below wr.heap.size wr w3 := by rw [hw3]; exact (Below.refl _ wr).alloc (Nat.le_refl _) _
          have hB3 : Blk w3 wr.heap.size 5 #[.int .u8 7, .int .u8 3, .int .u8 2] := by rw [hw3]; exact Blk.new wr 5 _
          have hrb : Reads w3 w3.heap.size 1 (some ⟨wr.heap.size, 0, none⟩) 3 (([7, 3, 2] : List Nat).map fun k : Nat => Value.int .u8 k) := by
            refine ⟨rfl, fun _ => ⟨_, rfl, hB3.lt, fun j u hu => ?_⟩⟩
            rw [add_lit0, hB3.cell j, ← hu]
            match j with
            | 0 => rfl
            | 1 => rfl
            | 2 => rfl
            | j + 3 => simp
          have hrk3 := (hrk.below (hb3.mono HBX.out.size)).more (B' := w3.heap.size) (Nat.le_trans HBX.out.size hb3.size)
          have c7 := read32_odd w3.heap.size (some ⟨wq.heap.size, 0, none⟩) (some ⟨wr.heap.size, 0, none⟩) 3 3 3 knownV [7, 3, 2] 0 1 w3 hrk3 hrb (Nat.le_refl _) known_ok (by decide) (by decide) (by decide) (hGx.below hb3 hGx.size)
          have HGX := Lib.hid hGx
          have HB3 := Lib.hid hb3
          have HW3 := Lib.hid hw3
          have C7 := Lib.hid c7
          clear hGx hrk hw3 hb3 hB3 hrb hrk3 c7
          go_wp2_with fail
          rw [← HW3.out]
          refine C7.out.mono ?_
          rintro e w4 ⟨rfl, hb4⟩
          have s0 := HB12.out.trans (HBX.out.mono HB12.out.size)
          have s1 := s0.trans (HB3.out.mono s0.size)
          have s2 := s1.trans (hb4.mono s1.size)
          have hwb : Below w.heap.size w w4 := HBW.out.trans (s2.mono HBW.out.size)
          have hrv := (Reads.of_own (own_below HOW.out s2))
          have hbl4 : Reads w4 B 1 Ab nb (bl.map fun k : Nat => Value.int .u8 k) := HBL.out.below (hwb.mono hB)
          have c7b := read32_odd w4.heap.size A1 Ab c1 nb cb ws bl which wh w4 (by rw [hwl]; exact hrv) (hbl4.more (Nat.le_trans hB hwb.size)) (Nat.le_refl _) HWO.out HBB.out hw1 hw2 (HG.out.below hwb HG.out.size)
          rw [hwl] at c7b
          have C7B := Lib.hid c7b
          have HWB := Lib.hid hwb
          clear s0 s1 s2 hb4 hwb hrv hbl4 c7b
          go_wp2_with fail
          refine C7B.out.mono ?_
          rintro e w5 ⟨rfl, hb5⟩
          have HFIN := Lib.hid (HWB.out.trans (hb5.mono HWB.out.size))
          clear hb5
          go_wp2_with fail
          go_ret
          exact ⟨rfl, HFIN.out⟩
        · obtain ⟨v, hv⟩ : ∃ v, knownV[j]'(by simpa [knownV] using hj3) = v := ⟨_, rfl⟩
          have hvo : VerseOk v := known_ok.each v (by rw [← hv]; exact List.getElem_mem _)
          have hwant : wantL[j]? = some (lineL (opV v)) := by
            rw [← hv]
            exact want_line j hj3
          have hkl : j < knownV.length := by simpa [knownV] using hj3
          have hK3 := HK2.out.below HBX.out HK2.out.lt
          have hW3 := HWN.out.below HBX.out HWN.out.lt
          have hcell : ∀ t, t < 8 → wr.cell? ⟨wq.heap.size, j * 8 + t, none⟩ = (verseCells v)[t]? := fun t ht => by
            rw [hK3.cell, List.getElem?_toArray, versesCells_at knownV j t hkl ht, hv]
          have xw : wr.cell? ⟨wq.heap.size + 1, j, none⟩ = some (str (lineL (opV v))) := by
            rw [hW3.cell, List.getElem?_toArray, List.getElem?_map, hwant]; rfl
          have x0 : wr.cell? ⟨wq.heap.size, j * 8, none⟩ = some (.int .u8 v.k) := hcell 0 (by omega)
          have x1 : wr.cell? ⟨wq.heap.size, j * 8 + 1, none⟩ = some (.bool v.d) := hcell 1 (by omega)
          have x2 : wr.cell? ⟨wq.heap.size, j * 8 + 2, none⟩ = some (str v.nm) := hcell 2 (by omega)
          have x3 : wr.cell? ⟨wq.heap.size, j * 8 + 3, none⟩ = some (str v.tx) := hcell 3 (by omega)
          have x4 : wr.cell? ⟨wq.heap.size, j * 8 + 4, none⟩ = some (.int .i16 v.c0) := hcell 4 (by omega)
          have x5 : wr.cell? ⟨wq.heap.size, j * 8 + 5, none⟩ = some (.int .i16 v.c1) := hcell 5 (by omega)
          have x6 : wr.cell? ⟨wq.heap.size, j * 8 + 6, none⟩ = some (.int .i16 v.c2) := hcell 6 (by omega)
          have x7 : wr.cell? ⟨wq.heap.size, j * 8 + 7, none⟩ = some (.int .i16 v.c3) := hcell 7 (by omega)
          have hGx := HG.out.below ((HBW.out.trans (HB12.out.mono HBW.out.size)).trans (HBX.out.mono (Nat.le_trans HBW.out.size HB12.out.size))) HG.out.size
          have c5 : ∀ wx, Glob wx → Calls Tryz.prog 5 #[.agg (verseCells v)] wx fun e w' => e = .returned (.tuple #[.agg (opCells (opV v)), str (lineL (opV v))]) ∧ Below wx.heap.size wx w' := fun wx hx => verse_any v wx hvo hx
          have hgo := good_op v hvo
          obtain ⟨o, ho⟩ : ∃ o, opV v = o := ⟨_, rfl⟩
          rw [ho] at c5 hgo xw
          have c6 : ∀ wx, Glob wx → Calls Tryz.prog 6 #[.agg (opCells o)] wx fun e w' => e = .returned (.tuple #[str (lineL o), .int .i64 0]) ∧ Below wx.heap.size wx w' := fun wx hx => Line_any o wx hgo.kind hgo.ok hx hgo.good hgo.back
          obtain ⟨L, hL⟩ : ∃ L, lineL o = L := ⟨_, rfl⟩
          rw [hL] at c5 c6 xw
          have hvc : verseCells v = #[.int .u8 v.k, .bool v.d, str v.nm, str v.tx, .int .i16 v.c0, .int .i16 v.c1, .int .i16 v.c2, .int .i16 v.c3] := rfl
          obtain ⟨d, df, nm, tx, m0, m1, m2, m3⟩ := o
          have hop : opCells ⟨d, df, nm, tx, m0, m1, m2, m3⟩ = #[.int .u8 d, .bool df, str nm, str tx, .int .i64 m0, .int .i64 m1, .int .i64 m2, .int .i64 m3] := rfl
          rw [hop] at c5 c6
          rw [hvc] at c5
          have HGX := Lib.hid hGx
          have C5 := Lib.hid c5
          have C6 := Lib.hid c6
          have HWL := Lib.hid hW3.lt
          have HXW := Lib.hid xw
          clear hcell hK3 hW3 hwant hvo hv c5 c6 hgo ho hL hvc hop hGx xw
          have hba := (Below.refl _ wr).alloc (Nat.le_refl _) (.cells #[.int .u8 v.k, .bool v.d, str v.nm, str v.tx, .int .i16 v.c0, .int .i16 v.c1, .int .i16 v.c2, .int .i16 v.c3] 28)
          have HGA := Lib.hid (HGX.out.below hba HGX.out.size)
          have HBA := Lib.hid hba
          clear hba
          go_wp2_with fail
          refine (C5.out _ HGA.out).mono ?_
          rintro e w3 ⟨rfl, hb3⟩
          have hb03 := HBA.out.trans (hb3.mono HBA.out.size)
          have hbb := hb03.alloc hb03.size (.cells #[.int .u8 d, .bool df, str nm, str tx, .int .i64 m0, .int .i64 m1, .int .i64 m2, .int .i64 m3] 33)
          have HGB := Lib.hid (HGX.out.below hbb HGX.out.size)
          have HBB2 := Lib.hid hbb
          clear hb3 hb03 hbb
          go_wp2_with fail
          refine (C6.out _ HGB.out).mono ?_
          rintro e w4 ⟨rfl, hb4⟩
          have hb04 := HBB2.out.trans (hb4.mono HBB2.out.size)
          have xw : w4.cell? ⟨wq.heap.size + 1, j, none⟩ = some (str L) := by rw [hb04.cell HWL.out]; exact HXW.out
          have HB04 := Lib.hid hb04
          clear hb4 hb04
          go_wp2_with fail
          go_roundg (4 - (j + 1))
          case measure => omega
          case rel => exact ⟨j + 1, by omega, rfl, by go_num, HBX.out.trans (HB04.out.mono HBX.out.size)⟩
    · obtain ⟨g, hA1⟩ : ∃ g, A1 = some ⟨g, 0, none⟩ := by
        rcases hown.2 with ⟨_, h0⟩ | ⟨g, cap, cur, hv, _⟩
        · omega
        · injection hv with hA _ _; exact ⟨g, hA⟩
      subst hA1
      have hil : i < (vs.take m).length := by rw [List.length_take]; omega
      obtain ⟨v, hv⟩ : ∃ v, (vs.take m)[i] = v := ⟨_, rfl⟩
      have hdrop : (vs.take m).drop i = v :: (vs.take m).drop (i + 1) := by rw [List.drop_eq_getElem_cons hil, hv]
      have htake : (vs.take m).take (i + 1) = (vs.take m).take i ++ [v] := by rw [List.take_succ_eq_append_getElem hil, hv]
      obtain ⟨pre, hpre⟩ : ∃ pre, ((vs.take m).take i).map clampV = pre := ⟨_, rfl⟩
      have hpl : pre.length = i := by rw [← hpre, List.length_map, List.length_take]; omega
      rw [hpre, hdrop] at hown
      obtain ⟨post, hpost⟩ : ∃ post, (vs.take m).drop (i + 1) = post := ⟨_, rfl⟩
      rw [hpost] at hown
      have hidx : ∀ t, t < 8 → wr.cell? ⟨g, i * 8 + t, none⟩ = (verseCells v)[t]? := fun t ht => by
        have hlen : (pre ++ v :: post).length = m := by
          have := hown.1
          rw [versesCells_length] at this
          omega
        rw [hown.cellAt _ (by omega), versesCells_at _ i t (by rw [hlen]; exact him) ht]
        have : (pre ++ v :: post)[i]'(by rw [hlen]; exact him) = v := by
          rw [List.getElem_append_right (by omega)]
          simp [hpl]
        rw [this]
      have x2 : wr.cell? ⟨g, i * 8 + 2, none⟩ = some (str v.nm) := hidx 2 (by omega)
      have x3 : wr.cell? ⟨g, i * 8 + 3, none⟩ = some (str v.tx) := hidx 3 (by omega)
      have f2 : wr.frozen? ⟨g, i * 8 + 2, none⟩ = false := hown.frozenAt _
      have f3 : wr.frozen? ⟨g, i * 8 + 3, none⟩ = false := hown.frozenAt _
      have hvi := HVS.out v (List.mem_of_mem_take (by rw [← hv]; exact List.getElem_mem hil))
      have hn1 := hvi.nm
      have ht1 := hvi.tx
      obtain ⟨k2, hk2⟩ : ∃ k, min v.nm.length 200 = k := ⟨_, rfl⟩
      obtain ⟨k3, hk3⟩ : ∃ k, min v.tx.length 200 = k := ⟨_, rfl⟩
      have hm2 : min (v.nm.length : Int) 200 = (k2 : Int) := by omega
      have hm3 : min (v.tx.length : Int) 200 = (k3 : Int) := by omega
      have hk2l : k2 ≤ v.nm.length := by omega
      have hk3l : k3 ≤ v.tx.length := by omega
      have HOW := Lib.hid hown
      have HPR := Lib.hid hpre
      have HPO := Lib.hid hpost
      have HTK := Lib.hid htake
      have HK2 := Lib.hid hk2
      have HK3 := Lib.hid hk3
      clear hown hidx hpre hpost htake hdrop hk2 hk3 hvi hv hil
      go_wp2_with fail
      go_region
      have hs2 := HOW.out.stored (i * 8 + 2) (Value.string ((⟨v.nm.toArray⟩ : ByteArray).extract 0 k2))
      have hs3 := hs2.1.stored (i * 8 + 3) (Value.string ((⟨v.tx.toArray⟩ : ByteArray).extract 0 k3))
      have hrow := hs3.1
      have hgw : ∀ k, some g = some k → w.heap.size ≤ k := fun k hk => (HOW.out.lt k hk).1
      have hbz := (HBW.out.grown hs2.2 HBW.out.size hgw).grown hs3.2 (Nat.le_trans HBW.out.size hs2.2.size) hgw
      rw [clamp_cells pre post v i k2 k3 hpl HK2.out HK3.out] at hrow
      generalize ((wr.setCell ⟨g, i * 8 + 2, none⟩ (Value.string ((⟨v.nm.toArray⟩ : ByteArray).extract 0 k2))).setCell ⟨g, i * 8 + 3, none⟩ (Value.string ((⟨v.tx.toArray⟩ : ByteArray).extract 0 k3))) = wz at hrow hbz ⊢
      have hrow2 : wz.ownsRow w.heap.size 28 8 (.slice (some ⟨g, 0, none⟩) m c1) m (versesCells (((vs.take m).take (i + 1)).map clampV ++ (vs.take m).drop (i + 1))) := by
        rw [HTK.out, List.map_append, HPR.out, HPO.out, List.append_assoc]
        exact hrow
      have HROW := Lib.hid hrow2
      have HBZ := Lib.hid hbz
      clear hs2 hs3 hrow hbz hrow2
      go_wp2_with fail
      go_roundg (m + 1 - (i + 1))
      case measure => omega
      case rel => exact ⟨i + 1, by omega, rfl, by go_num, HROW.out, HBZ.out.drew⟩
end Go.Proofs.YtadncponjpdcmaaGreatDoor

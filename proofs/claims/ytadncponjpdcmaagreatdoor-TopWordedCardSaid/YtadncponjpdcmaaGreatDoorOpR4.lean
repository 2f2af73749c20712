/-
  The coder's op, reading: a run, what is no op, and all kinds in one.
-/
import Derived.Test.YtadncponjpdcmaaGreatDoorOpR
namespace Go.Proofs.YtadncponjpdcmaaGreatDoor
open Go.RowKit

set_option maxHeartbeats 2000000 in
set_option maxRecDepth 100000 in
theorem op_r0 (B K D : Nat) (ws : List Bs) (w : World) (h : RdC B K ws false w) (hD : Blk w D 33 zeroCellsOf)
    (hdk : B ≤ D ∧ D ≠ K ∧ 8 ≤ B ∧ B ≤ K) (hs : ∀ s ∈ ws, s.length ≤ 1000000000) (hG : Glob w) (R : OpL × (List Bs × Bool)) (hR : readOp ws = R) (hd : (stepR doW doR (ws, false) 0).2 = 0) :
    Calls Tryz.prog 10 #[.pointer (some ⟨K, 0, none⟩), .pointer (some ⟨D, 0, none⟩)] w (OpRPost B K D R w) := by
  have hN := names_alloc w
  have hS := StR.start (st := (ws, false)) (w' := (w.alloc (.cells (nameL.map str).toArray 9)).alloc (.cells #[.slice (some ⟨w.heap.size, 0, none⟩) 8 8] 29)) h hD hG hs hdk
    (((Below.refl _ w).alloc (Nat.le_refl _) _).alloc (by simp) _)
  have hKl : K < w.heap.size := by obtain ⟨_, A, n, c, hk, _⟩ := h; exact hk.lt
  have hDl : D < w.heap.size := hD.lt
  have hVN : w.heap.size + 1 ≠ K ∧ w.heap.size ≠ K ∧ w.heap.size + 1 ≠ D ∧ w.heap.size ≠ D := by omega
  rw [names_lit] at hN hS
  unfold readOp at hR
  simp only [hd] at hR
  have HR := Lib.hid hR
  have HDD := Lib.hid hd
  have HN := Lib.hid hN
  have HS := Lib.hid hS
  have HVN := Lib.hid hVN
  clear hN h hG hD hS hdk hs hR hd hKl hDl hVN
  go_enter Tryz.func10, Tryz.ntmps10
  go_wp2_with fail
  refine (sr_do HS.out (x := 0) rfl (by decide) HN.out HVN.out).mono ?_
  rintro e w1 ⟨rfl, h1⟩
  rw [HDD.out] at h1
  generalize (stepR doW doR (ws, false) 0).1 = st at h1 HR
  have d1 : w1.cell? ⟨D, 0, none⟩ = some (.int .u8 0) := h1.blk.cell 0
  have H1 := Lib.hid h1
  clear h1
  have k2 : w1.cell? ⟨K, 2, none⟩ = some (.bool st.2) := H1.out.rd.cells.2.1
  have f2 : w1.frozen? ⟨K, 2, none⟩ = false := H1.out.rd.cells.2.2
  go_wp2
  go_end0
  have hR := HR.out
  subst hR
  exact ⟨rfl, H1.out.rd.setbad true, H1.out.blk.far (p := ⟨K, 2, none⟩) H1.out.dk.2.1 _, H1.out.keep.blkset (by simp) _⟩

set_option maxHeartbeats 2000000 in
set_option maxRecDepth 100000 in
theorem op_r4 (B K D : Nat) (ws : List Bs) (w : World) (h : RdC B K ws false w) (hD : Blk w D 33 zeroCellsOf)
    (hdk : B ≤ D ∧ D ≠ K ∧ 8 ≤ B ∧ B ≤ K) (hs : ∀ s ∈ ws, s.length ≤ 1000000000) (hG : Glob w) (R : OpL × (List Bs × Bool)) (hR : readOp ws = R) (hd : (stepR doW doR (ws, false) 0).2 = 4) :
    Calls Tryz.prog 10 #[.pointer (some ⟨K, 0, none⟩), .pointer (some ⟨D, 0, none⟩)] w (OpRPost B K D R w) := by
  have hN := names_alloc w
  have hS := StR.start (st := (ws, false)) (w' := (w.alloc (.cells (nameL.map str).toArray 9)).alloc (.cells #[.slice (some ⟨w.heap.size, 0, none⟩) 8 8] 29)) h hD hG hs hdk
    (((Below.refl _ w).alloc (Nat.le_refl _) _).alloc (by simp) _)
  have hKl : K < w.heap.size := by obtain ⟨_, A, n, c, hk, _⟩ := h; exact hk.lt
  have hDl : D < w.heap.size := hD.lt
  have hVN : w.heap.size + 1 ≠ K ∧ w.heap.size ≠ K ∧ w.heap.size + 1 ≠ D ∧ w.heap.size ≠ D := by omega
  rw [names_lit] at hN hS
  unfold readOp at hR
  simp only [hd] at hR
  have HR := Lib.hid hR
  have HDD := Lib.hid hd
  have HN := Lib.hid hN
  have HS := Lib.hid hS
  have HVN := Lib.hid hVN
  clear hN h hG hD hS hdk hs hR hd hKl hDl hVN
  go_enter Tryz.func10, Tryz.ntmps10
  go_wp2_with fail
  refine (sr_do HS.out (x := 0) rfl (by decide) HN.out HVN.out).mono ?_
  rintro e w1 ⟨rfl, h1⟩
  rw [HDD.out] at h1
  generalize (stepR doW doR (ws, false) 0).1 = st at h1 HR
  have d1 : w1.cell? ⟨D, 0, none⟩ = some (.int .u8 4) := h1.blk.cell 0
  have H1 := Lib.hid h1
  clear h1
  go_wp2_with fail
  obtain ⟨ra, hra⟩ : ∃ r, stepR Lib.itoa numR st 0 = r := ⟨_, rfl⟩
  obtain ⟨rb, hrb⟩ : ∃ r, stepR Lib.itoa numR ra.1 0 = r := ⟨_, rfl⟩
  obtain ⟨rc, hrc⟩ : ∃ r, stepR Lib.itoa numR rb.1 0 = r := ⟨_, rfl⟩
  obtain ⟨rd, hrd⟩ : ∃ r, stepR Lib.itoa numR rc.1 0 = r := ⟨_, rfl⟩
  have hR2 := HR.out
  rw [hra, hrb, hrc, hrd] at hR2
  have HR2 := Lib.hid hR2
  have HRA := Lib.hid hra
  have HRB := Lib.hid hrb
  have HRC := Lib.hid hrc
  have HRD := Lib.hid hrd
  clear hR2 hra hrb hrc hrd
  have hrow : ∀ (wx : World), Blk ((wx.alloc (.cells #[Value.pointer (some ⟨D, 4, none⟩), Value.pointer (some ⟨D, 5, none⟩), Value.pointer (some ⟨D, 6, none⟩), Value.pointer (some ⟨D, 7, none⟩)] 75)).drew) wx.heap.size 75 #[Value.pointer (some ⟨D, 4, none⟩), Value.pointer (some ⟨D, 5, none⟩), Value.pointer (some ⟨D, 6, none⟩), Value.pointer (some ⟨D, 7, none⟩)] := fun wx => Blk.new wx 75 _
  have HQ := Lib.hid (hrow w1)
  have hS1 : StR B K D st #[.int .u8 4, .bool false, str [], str [], .int .i64 0, .int .i64 0, .int .i64 0, .int .i64 0] w ((w1.alloc (.cells #[Value.pointer (some ⟨D, 4, none⟩), Value.pointer (some ⟨D, 5, none⟩), Value.pointer (some ⟨D, 6, none⟩), Value.pointer (some ⟨D, 7, none⟩)] 75)).drew) := by
    have hb : Below w1.heap.size w1 ((w1.alloc (.cells #[Value.pointer (some ⟨D, 4, none⟩), Value.pointer (some ⟨D, 5, none⟩), Value.pointer (some ⟨D, 6, none⟩), Value.pointer (some ⟨D, 7, none⟩)] 75)).drew) := ((Below.refl _ w1).alloc (Nat.le_refl _) _).drew
    exact ⟨H1.out.rd.below hb, H1.out.blk.below hb H1.out.blk.lt, H1.out.glob.below hb H1.out.glob.size, H1.out.keep.trans (Keep.of_below hb (fun _ _ h => h)), H1.out.short, H1.out.dk⟩
  have HS1 := Lib.hid hS1
  have hKl : K < w1.heap.size := by obtain ⟨_, A, n, c, hk, _⟩ := H1.out.rd; exact hk.lt
  have hDl : D < w1.heap.size := H1.out.blk.lt
  have hne : w1.heap.size ≠ K ∧ w1.heap.size ≠ D := by omega
  have HNE := Lib.hid hne
  clear hrow hS1 d1 hKl hDl hne
  go_region
  go_wp2_with fail
  go_loopw [74] (fun i wr => ∃ (k : Nat), k ≤ 4 ∧ i = .int .i64 k ∧ (match k with
        | 0 => StR B K D st #[.int .u8 4, .bool false, str [], str [], .int .i64 0, .int .i64 0, .int .i64 0, .int .i64 0] w wr
        | 1 => StR B K D ra.1 #[.int .u8 4, .bool false, str [], str [], .int .i64 ra.2, .int .i64 0, .int .i64 0, .int .i64 0] w wr
        | 2 => StR B K D rb.1 #[.int .u8 4, .bool false, str [], str [], .int .i64 ra.2, .int .i64 rb.2, .int .i64 0, .int .i64 0] w wr
        | 3 => StR B K D rc.1 #[.int .u8 4, .bool false, str [], str [], .int .i64 ra.2, .int .i64 rb.2, .int .i64 rc.2, .int .i64 0] w wr
        | _ => StR B K D rd.1 #[.int .u8 4, .bool false, str [], str [], .int .i64 ra.2, .int .i64 rb.2, .int .i64 rc.2, .int .i64 rd.2] w wr) ∧
      Blk wr w1.heap.size 75 #[Value.pointer (some ⟨D, 4, none⟩), Value.pointer (some ⟨D, 5, none⟩), Value.pointer (some ⟨D, 6, none⟩), Value.pointer (some ⟨D, 7, none⟩)]) (fun i _ => 4 - (intOf i).toNat)
  case atStart => exact ⟨0, by decide, rfl, HS1.out, HQ.out⟩
  case round =>
    obtain ⟨k, hk, rfl, hS, hR⟩ := hrel
    have hKr : ∀ w2, Keep (fun i => i ≠ K ∧ i ≠ D) wr w2 → Blk w2 w1.heap.size 75 #[Value.pointer (some ⟨D, 4, none⟩), Value.pointer (some ⟨D, 5, none⟩), Value.pointer (some ⟨D, 6, none⟩), Value.pointer (some ⟨D, 7, none⟩)] := fun w2 h => hR.kept h HNE.out
    have HKR := Lib.hid hKr
    have HS2 := Lib.hid hS
    have c0 : wr.cell? ⟨w1.heap.size, 0, none⟩ = some (.pointer (some ⟨D, 4, none⟩)) := hR.cell 0
    have c1 : wr.cell? ⟨w1.heap.size, 1, none⟩ = some (.pointer (some ⟨D, 5, none⟩)) := hR.cell 1
    have c2 : wr.cell? ⟨w1.heap.size, 2, none⟩ = some (.pointer (some ⟨D, 6, none⟩)) := hR.cell 2
    have c3 : wr.cell? ⟨w1.heap.size, 3, none⟩ = some (.pointer (some ⟨D, 7, none⟩)) := hR.cell 3
    clear hKr hS hR
    match k, hk with
    | 0, _ =>
      go_wp2_with fail
      refine (sr_int HS2.out (off := 4) rfl int64_zero).mono ?_
      rintro e w3 ⟨rfl, h3, o3⟩
      rw [HRA.out] at h3
      have H3 := Lib.hid h3
      have HR3 := Lib.hid (HKR.out _ o3)
      clear h3 o3 c0 c1 c2 c3
      go_wp2
      go_roundw
      case rel => exact ⟨1, by decide, rfl, H3.out, HR3.out⟩
      case measure => simp [intOf]
    | 1, _ =>
      go_wp2_with fail
      refine (sr_int HS2.out (off := 5) rfl int64_zero).mono ?_
      rintro e w3 ⟨rfl, h3, o3⟩
      rw [HRB.out] at h3
      have H3 := Lib.hid h3
      have HR3 := Lib.hid (HKR.out _ o3)
      clear h3 o3 c0 c1 c2 c3
      go_wp2
      go_roundw
      case rel => exact ⟨2, by decide, rfl, H3.out, HR3.out⟩
      case measure => simp [intOf]
    | 2, _ =>
      go_wp2_with fail
      refine (sr_int HS2.out (off := 6) rfl int64_zero).mono ?_
      rintro e w3 ⟨rfl, h3, o3⟩
      rw [HRC.out] at h3
      have H3 := Lib.hid h3
      have HR3 := Lib.hid (HKR.out _ o3)
      clear h3 o3 c0 c1 c2 c3
      go_wp2
      go_roundw
      case rel => exact ⟨3, by decide, rfl, H3.out, HR3.out⟩
      case measure => simp [intOf]
    | 3, _ =>
      go_wp2_with fail
      refine (sr_int HS2.out (off := 7) rfl int64_zero).mono ?_
      rintro e w3 ⟨rfl, h3, o3⟩
      rw [HRD.out] at h3
      have H3 := Lib.hid h3
      have HR3 := Lib.hid (HKR.out _ o3)
      clear h3 o3 c0 c1 c2 c3
      go_wp2
      go_roundw
      case rel => exact ⟨4, by decide, rfl, H3.out, HR3.out⟩
      case measure => simp [intOf]
    | 4, _ =>
      clear c0 c1 c2 c3
      go_wp2_with fail
      refine (sr_str HS2.out (off := 3) rfl (Nat.zero_le _)).mono ?_
      rintro e w3 ⟨rfl, h3, _⟩
      have H3 := Lib.hid h3
      clear h3
      go_wp2
      go_end0
      have hR := HR2.out
      subst hR
      exact ⟨rfl, H3.out.rd, H3.out.blk, H3.out.keep⟩
    | n + 5, h => exact absurd h (by omega)

theorem op_read (B K D : Nat) (ws : List Bs) (w : World) (h : RdC B K ws false w) (hD : Blk w D 33 zeroCellsOf)
    (hdk : B ≤ D ∧ D ≠ K ∧ 8 ≤ B ∧ B ≤ K) (hs : ∀ s ∈ ws, s.length ≤ 1000000000) (hG : Glob w) :
    Calls Tryz.prog 10 #[.pointer (some ⟨K, 0, none⟩), .pointer (some ⟨D, 0, none⟩)] w (OpRPost B K D (readOp ws) w) := by
  have hlt : (stepR doW doR (ws, false) 0).2 < 8 := by
    rcases step_cases ws false with hb | ⟨s, r, rfl, _⟩
    · rw [stepR_no _ _ _ _ _ hb]; show 0 < 8; decide
    · rw [stepR_yes]; show doR s < 8; unfold doR; omega
  match hd : (stepR doW doR (ws, false) 0).2, hlt with
  | 0, _ => exact op_r0 B K D ws w h hD hdk hs hG _ rfl hd
  | 1, _ => exact op_r1 B K D ws w h hD hdk hs hG _ rfl hd
  | 2, _ => exact op_r2 B K D ws w h hD hdk hs hG _ rfl hd
  | 3, _ => exact op_r3 B K D ws w h hD hdk hs hG _ rfl hd
  | 4, _ => exact op_r4 B K D ws w h hD hdk hs hG _ rfl hd
  | 5, _ => exact op_r5 B K D ws w h hD hdk hs hG _ rfl hd
  | 6, _ => exact op_r6 B K D ws w h hD hdk hs hG _ rfl hd
  | 7, _ => exact op_r7 B K D ws w h hD hdk hs hG _ rfl hd
  | n + 8, h => exact absurd h (by omega)

end Go.Proofs.YtadncponjpdcmaaGreatDoor

/-
  A verse's op and its line by hand, at object: walked. Printed by mkverse2.py.
-/
import Derived.Test.YtadncponjpdcmaaGreatDoorFM
namespace Go.Proofs.YtadncponjpdcmaaGreatDoor
open Go.RowKit

set_option maxHeartbeats 8000000 in
set_option maxRecDepth 100000 in
theorem op_obj_unit (k : Nat) (nm tx : Bs) (c0 c1 c2 c3 : Int) (w : World) (hkm : (k : Int).tmod 7 = 5) (hl : nm.length ≤ 1000000) (hG : Glob w) :
    Calls Tryz.prog 5 #[.agg #[.int .u8 k, .bool false, str nm, str tx, .int .i16 c0, .int .i16 c1, .int .i16 c2, .int .i16 c3]] w fun e w' => e = .returned (.tuple #[.agg (opCells ⟨6, false, nm, [], 0, 0, 0, 0⟩), .string (headB 6 ++ ⟨(wordL nm).toArray⟩)]) ∧ Below w.heap.size w w' := by
  have hwl : (wordL nm).length ≤ 4000000 := by have := word_length nm; omega
  have c8 : ∀ wx, Glob wx → Calls Tryz.prog 8 #[.string ⟨nm.toArray⟩] wx fun e w' => e = .returned (str (wordL nm)) ∧ Below wx.heap.size wx w' := fun wx h => worded_any ⟨nm.toArray⟩ wx (by simp [ByteArray.size]; omega) h
  generalize wordL nm = W1 at hwl c8 ⊢
  have hhs : (headB 6).size ≤ 10 := by decide
  have hmm := @run_makeMap Tryz.prog
  have HG := Lib.hid hG
  have C8 := Lib.hid c8
  clear hG c8
  go_enter Tryz.func5, Tryz.ntmps5
  go_wp2_with fail
  obtain ⟨hb1, hb2, hb3, hbw, hsz⟩ := three_blocks0 w #[.int .u8 k, .bool false, str nm, str tx, .int .i16 c0, .int .i16 c1, .int .i16 c2, .int .i16 c3] #[.int .u8 0, .bool false, .string ⟨#[]⟩, .string ⟨#[]⟩, .int .i64 0, .int .i64 0, .int .i64 0, .int .i64 0] #[.int .u8 6, .bool false, .string ⟨nm.toArray⟩, .string ⟨#[]⟩, .int .i64 0, .int .i64 0, .int .i64 0, .int .i64 0] 28 33 33
  generalize hW : (((w.alloc (.cells #[.int .u8 k, .bool false, str nm, str tx, .int .i16 c0, .int .i16 c1, .int .i16 c2, .int .i16 c3] 28)).alloc (.cells #[.int .u8 0, .bool false, .string ⟨#[]⟩, .string ⟨#[]⟩, .int .i64 0, .int .i64 0, .int .i64 0, .int .i64 0] 33)).alloc (.cells #[.int .u8 6, .bool false, .string ⟨nm.toArray⟩, .string ⟨#[]⟩, .int .i64 0, .int .i64 0, .int .i64 0, .int .i64 0] 33)) = W at hb1 hb2 hb3 hbw hsz ⊢
  refine wp_region_any (by kernel_rfl) ?_
  change wpAny _ _ _ _ _ _ _ (World.drew _)
  refine wpAny_inv (JM _ _ _ _ _ _ _ _ _ _ _ _ _ _ _ _ _ _ _ _ _ _ _ _ _ _ _ _ _ _ _ _ _ _ _ _ _ _ _ _ _ _ _ _ _ _ _ _ _ _ _ _ _ _ _ _ _ _ _ _ _ _ _ _ _ _ _ _ _ _ _ _ _ _ _ _ _ _ _ _ _ _ _ _ _ _ _ _ _ _ _ _ _ _ _ _ _ _ _ _ _ _ _ _ w w.heap.size nm W1 6 #[.int .u8 k, .bool false, str nm, str tx, .int .i16 c0, .int .i16 c1, .int .i16 c2, .int .i16 c3]) ?hstep ?hend _ _ _ _ (JM.start _ _ _ _ _ _ _ _ _ _ _ _ _ _ _ _ _ _ _ _ _ _ _ _ _ _ _ _ _ _ _ _ _ _ _ _ _ _ _ _ _ _ _ _ _ _ _ _ _ _ _ _ _ _ _ _ _ _ _ _ _ _ _ _ _ _ _ _ _ _ _ _ _ _ _ _ _ _ _ _ _ _ _ _ _ _ _ _ _ _ _ _ _ _ _ _ _ _ _ _ _ _ _ _ _ _ _ _ _ _ _ _ _ _ _ w w.heap.size nm W1 6 #[.int .u8 k, .bool false, str nm, str tx, .int .i16 c0, .int .i16 c1, .int .i16 c2, .int .i16 c3] W.drew hb1 hb3 hb2 hbw.drew) (by decide)
  case hend =>
    clear hb1 hb2 hb3 hbw hsz hW
    rintro listed a wx ⟨b0, b1, b2, b3, b4, b5, b6, b7, b8, b9, b10, b11, b12, b13, b14, v105, v106, v107, v108, v109, v110, v111, v112, v113, v114, v3, rfl, rfl, hF⟩ hr
    have t0 : b0 = true := ready_nil (i := 0) hr rfl rfl
    subst t0
    have t1 : b1 = true := ready_nil (i := 1) hr rfl rfl
    subst t1
    have t2 : b2 = true := ready_nil (i := 2) hr rfl rfl
    subst t2
    have t3 : b3 = true := ready_nil (i := 3) hr rfl rfl
    subst t3
    have t4 : b4 = true := ready_nil (i := 4) hr rfl rfl
    subst t4
    have t5 : b5 = true := ready_nil (i := 5) hr rfl rfl
    subst t5
    have t6 : b6 = true := ready_nil (i := 6) hr rfl rfl
    subst t6
    have t7 : b7 = true := ready_nil (i := 7) hr rfl rfl
    subst t7
    have t8 : b8 = true := ready_nil (i := 8) hr rfl rfl
    subst t8
    have t9 : b9 = true := ready_nil (i := 9) hr rfl rfl
    subst t9
    have t10 : b10 = true := ready_nil (i := 10) hr rfl rfl
    subst t10
    have t11 : b11 = true := ready_nil (i := 11) hr rfl rfl
    subst t11
    have t12 : b12 = true := ready_nil (i := 12) hr rfl rfl
    subst t12
    have t13 : b13 = true := ready_nil (i := 13) hr rfl rfl
    subst t13
    have t14 : b14 = true := ready_nil (i := 14) hr rfl rfl
    subst t14
    clear hr
    obtain rfl := hF.e14 rfl
    have hf := hF.hS rfl
    have hbf := hF.below
    clear hF
    go_wp2_with fail
    refine bodyPost_ret_by (v := .tuple #[.agg (opCells ⟨6, false, nm, [], 0, 0, 0, 0⟩), .string (headB 6 ++ ⟨W1.toArray⟩)]) ?_ rfl ⟨rfl, hbf⟩
    rw [results_cell_tmp Tryz.results5]
    have q0 : wx.cell? ⟨w.heap.size + 1, 0, none⟩ = some (.int .u8 6) := hf.cell 0
    have q1 : wx.cell? ⟨w.heap.size + 1, 1, none⟩ = some (.bool false) := hf.cell 1
    have q2 : wx.cell? ⟨w.heap.size + 1, 2, none⟩ = some (.string ⟨nm.toArray⟩) := hf.cell 2
    have q3 : wx.cell? ⟨w.heap.size + 1, 3, none⟩ = some (.string ⟨#[]⟩) := hf.cell 3
    have q4 : wx.cell? ⟨w.heap.size + 1, 4, none⟩ = some (.int .i64 0) := hf.cell 4
    have q5 : wx.cell? ⟨w.heap.size + 1, 5, none⟩ = some (.int .i64 0) := hf.cell 5
    have q6 : wx.cell? ⟨w.heap.size + 1, 6, none⟩ = some (.int .i64 0) := hf.cell 6
    have q7 : wx.cell? ⟨w.heap.size + 1, 7, none⟩ = some (.int .i64 0) := hf.cell 7
    simp [go_sem, opCells, q0, q1, q2, q3, q4, q5, q6, q7]
  case hstep =>
    clear hb1 hb2 hb3 hbw hsz hW
    rintro listed a wx ⟨b0, b1, b2, b3, b4, b5, b6, b7, b8, b9, b10, b11, b12, b13, b14, v105, v106, v107, v108, v109, v110, v111, v112, v113, v114, v3, rfl, rfl, hF⟩ i hi
    have hlt := ready_lt hi
    have HF := Lib.hid hF
    clear hF
    obtain rfl | rfl | rfl | rfl | rfl | rfl | rfl | rfl | rfl | rfl | rfl | rfl | rfl | rfl | rfl : i = 0 ∨ i = 1 ∨ i = 2 ∨ i = 3 ∨ i = 4 ∨ i = 5 ∨ i = 6 ∨ i = 7 ∨ i = 8 ∨ i = 9 ∨ i = 10 ∨ i = 11 ∨ i = 12 ∨ i = 13 ∨ i = 14 := by
      simp at hlt
      omega
    · have hr := ready_at hi rfl
      have hb : b0 = false := hr.1
      clear hr hi
      subst hb
      have y0 := HF.out.hD.cell 0
      have y1 := HF.out.hD.cell 1
      have y2 := HF.out.hD.cell 2
      have y3 := HF.out.hD.cell 3
      have y4 := HF.out.hD.cell 4
      have y5 := HF.out.hD.cell 5
      have y6 := HF.out.hD.cell 6
      have y7 := HF.out.hD.cell 7
      simp only [List.getElem?_toArray, List.getElem?_cons_zero, List.getElem?_cons_succ] at y0 y1 y2 y3 y4 y5 y6 y7
      refine wpOp_step rfl (fun K hK => ?_)
      go_simp
      refine hK _ _ ?_
      clear hK K
      exact ⟨true, b1, b2, b3, b4, b5, b6, b7, b8, b9, b10, b11, b12, b13, b14, _, v106, v107, v108, v109, v110, v111, v112, v113, v114, v3, rfl, rfl, { HF.out with e0 := fun _ => rfl }⟩
    · have hr := ready_at hi rfl
      have hb : b1 = false := hr.1
      clear hr hi
      subst hb
      have hz2 : b2 = false := by cases b2 with | false => rfl | true => exact absurd (HF.out.c2 rfl) (by decide)
      have hz3 : b3 = false := by cases b3 with | false => rfl | true => exact absurd (HF.out.c3 rfl) (by decide)
      have hz4 : b4 = false := by cases b4 with | false => rfl | true => exact absurd (HF.out.c4 rfl) (by decide)
      have hz5 : b5 = false := by cases b5 with | false => rfl | true => exact absurd (HF.out.c5 rfl).1 (by decide)
      subst hz2 hz3 hz4 hz5
      refine wpOp_step rfl (fun K hK => ?_)
      go_simp
      refine hK _ _ ?_
      clear hK K
      have hst : StepW w.heap.size wx (wx.alloc (.map #[] 0)) := .of_below ((Below.refl _ wx).alloc (Nat.le_refl _) _)
      have hge : w.heap.size + 3 ≤ wx.heap.size := by have := HF.out.hD.lt; omega
      refine ⟨b0, true, false, false, false, false, b6, b7, b8, b9, b10, b11, b12, b13, b14, v105, _, v107, v108, v109, v110, v111, v112, v113, v114, v3, rfl, rfl, ?F⟩
      have hS0 := HF.out.hS0
      obtain ⟨cs, hcs, hcz⟩ := hS0
      exact { HF.out with c2 := fun h => (by cases h), c3 := fun h => (by cases h), c4 := fun h => (by cases h), c5 := fun h => (by cases h), e1 := fun _ => ⟨_, rfl, hge, MapAt.made wx, fun h => (by cases h)⟩, hV := hst.blk HF.out.hV (by omega), hD := hst.blk HF.out.hD (by omega), hS0 := ⟨cs, hst.blk hcs (by omega), hcz⟩, hS := fun h => hst.blk (HF.out.hS h) (by omega), below := hst.below HF.out.below (Nat.le_refl _) }
    · have hr := ready_at hi rfl
      have hb : b2 = false := hr.1
      have h1 : b1 = true := hr.2 0 _ rfl rfl
      clear hr hi
      subst hb
      have h1' := h1
      subst h1
      have he1 := HF.out.e1 rfl
      obtain ⟨g, rfl, hg, hm, h107⟩ := he1
      obtain ⟨w2, hrun, hm2, hgr⟩ := MapAt.ins3 hm
      have hst := StepW.grown hgr hg
      have hz5 : b5 = false := by cases b5 with | false => rfl | true => exact absurd (HF.out.c5 rfl).2.1 (by decide)
      subst hz5
      refine wpOp_step rfl (fun K hK => ?_)
      go_simp
      refine hK _ _ ?_
      clear hK K
      refine ⟨b0, true, true, b3, b4, false, b6, b7, b8, b9, b10, b11, b12, b13, b14, v105, _, v107, v108, v109, v110, v111, v112, v113, v114, v3, rfl, rfl, ?_⟩
      have hS0 := HF.out.hS0
      obtain ⟨cs, hcs, hcz⟩ := hS0
      exact { HF.out with c2 := fun _ => rfl, c5 := fun h => (by cases h), e1 := fun _ => ⟨_, rfl, hg, hm2, fun h => (by cases h)⟩, hV := hst.blk HF.out.hV (by omega), hD := hst.blk HF.out.hD (by omega), hS0 := ⟨cs, hst.blk hcs (by omega), hcz⟩, hS := fun h => hst.blk (HF.out.hS h) (by omega), below := hst.below HF.out.below (Nat.le_refl _) }
    · have hr := ready_at hi rfl
      have hb : b3 = false := hr.1
      have h1 : b1 = true := hr.2 0 _ rfl rfl
      clear hr hi
      subst hb
      have h1' := h1
      subst h1
      have he1 := HF.out.e1 rfl
      obtain ⟨g, rfl, hg, hm, h107⟩ := he1
      obtain ⟨w2, hrun, hm2, hgr⟩ := MapAt.ins5 hm
      have hst := StepW.grown hgr hg
      have hz5 : b5 = false := by cases b5 with | false => rfl | true => exact absurd (HF.out.c5 rfl).2.2.1 (by decide)
      subst hz5
      refine wpOp_step rfl (fun K hK => ?_)
      go_simp
      refine hK _ _ ?_
      clear hK K
      refine ⟨b0, true, b2, true, b4, false, b6, b7, b8, b9, b10, b11, b12, b13, b14, v105, _, v107, v108, v109, v110, v111, v112, v113, v114, v3, rfl, rfl, ?_⟩
      have hS0 := HF.out.hS0
      obtain ⟨cs, hcs, hcz⟩ := hS0
      exact { HF.out with c3 := fun _ => rfl, c5 := fun h => (by cases h), e1 := fun _ => ⟨_, rfl, hg, hm2, fun h => (by cases h)⟩, hV := hst.blk HF.out.hV (by omega), hD := hst.blk HF.out.hD (by omega), hS0 := ⟨cs, hst.blk hcs (by omega), hcz⟩, hS := fun h => hst.blk (HF.out.hS h) (by omega), below := hst.below HF.out.below (Nat.le_refl _) }
    · have hr := ready_at hi rfl
      have hb : b4 = false := hr.1
      have h1 : b1 = true := hr.2 0 _ rfl rfl
      clear hr hi
      subst hb
      have h1' := h1
      subst h1
      have he1 := HF.out.e1 rfl
      obtain ⟨g, rfl, hg, hm, h107⟩ := he1
      obtain ⟨w2, hrun, hm2, hgr⟩ := MapAt.ins6 hm
      have hst := StepW.grown hgr hg
      have hz5 : b5 = false := by cases b5 with | false => rfl | true => exact absurd (HF.out.c5 rfl).2.2.2 (by decide)
      subst hz5
      refine wpOp_step rfl (fun K hK => ?_)
      go_simp
      refine hK _ _ ?_
      clear hK K
      refine ⟨b0, true, b2, b3, true, false, b6, b7, b8, b9, b10, b11, b12, b13, b14, v105, _, v107, v108, v109, v110, v111, v112, v113, v114, v3, rfl, rfl, ?_⟩
      have hS0 := HF.out.hS0
      obtain ⟨cs, hcs, hcz⟩ := hS0
      exact { HF.out with c4 := fun _ => rfl, c5 := fun h => (by cases h), e1 := fun _ => ⟨_, rfl, hg, hm2, fun h => (by cases h)⟩, hV := hst.blk HF.out.hV (by omega), hD := hst.blk HF.out.hD (by omega), hS0 := ⟨cs, hst.blk hcs (by omega), hcz⟩, hS := fun h => hst.blk (HF.out.hS h) (by omega), below := hst.below HF.out.below (Nat.le_refl _) }
    · have hr := ready_at hi rfl
      have hb : b5 = false := hr.1
      have h1 : b1 = true := hr.2 0 _ rfl rfl
      have h2 : b2 = true := hr.2 1 _ rfl rfl
      have h3 : b3 = true := hr.2 2 _ rfl rfl
      have h4 : b4 = true := hr.2 3 _ rfl rfl
      clear hr hi
      subst hb
      subst h1 h2 h3 h4
      have he1 := HF.out.e1 rfl
      obtain ⟨g, rfl, hg, hm, _⟩ := he1
      refine wpOp_step rfl (fun K hK => ?_)
      go_simp
      refine hK _ _ ?_
      clear hK K
      exact ⟨b0, true, true, true, true, true, b6, b7, b8, b9, b10, b11, b12, b13, b14, v105, _, _, v108, v109, v110, v111, v112, v113, v114, v3, rfl, rfl, { HF.out with c5 := fun _ => ⟨rfl, rfl, rfl, rfl⟩, e1 := fun _ => ⟨g, rfl, hg, hm, fun _ => rfl⟩ }⟩
    · have hr := ready_at hi rfl
      have hb : b6 = false := hr.1
      clear hr hi
      subst hb
      refine wpOp_step rfl (fun K hK => ?_)
      go_simp
      refine hK _ _ ?_
      clear hK K
      exact ⟨b0, b1, b2, b3, b4, b5, true, b7, b8, b9, b10, b11, b12, b13, b14, v105, v106, v107, _, v109, v110, v111, v112, v113, v114, v3, rfl, rfl, { HF.out with e6 := fun _ => rfl }⟩
    · have hr := ready_at hi rfl
      have hb : b7 = false := hr.1
      have h6 : b6 = true := hr.2 0 _ rfl rfl
      clear hr hi
      subst hb
      subst h6
      obtain rfl := HF.out.e6 rfl
      have y0 := HF.out.hD.cell 0
      simp only [List.getElem?_toArray, List.getElem?_cons_zero, List.getElem?_cons_succ] at y0
      refine wpOp_step rfl (fun K hK => ?_)
      go_simp
      refine hK _ _ ?_
      clear hK K
      exact ⟨b0, b1, b2, b3, b4, b5, true, true, b8, b9, b10, b11, b12, b13, b14, v105, v106, v107, _, _, v110, v111, v112, v113, v114, v3, rfl, rfl, { HF.out with e7 := fun _ => rfl }⟩
    · have hr := ready_at hi rfl
      have hb : b8 = false := hr.1
      have h5 : b5 = true := hr.2 0 _ rfl rfl
      have h7 : b7 = true := hr.2 1 _ rfl rfl
      clear hr hi
      subst hb
      subst h5 h7
      obtain ⟨q1, q2, q3, q4⟩ := HF.out.c5 rfl
      subst q1 q2 q3 q4
      have he1 := HF.out.e1 rfl
      obtain ⟨g, rfl, hg, hm, h107⟩ := he1
      obtain rfl := h107 rfl
      obtain rfl := HF.out.e7 rfl
      have hlook : (Instr.lookup 42 (.map (some g)) (.int .u8 6) false).run Tryz.prog wx = .ok (.string (headB 6)) wx := MapAt.look (d := 6) hm (by decide)
      refine wpOp_step rfl (fun K hK => ?_)
      go_simp
      refine hK _ _ ?_
      clear hK K
      exact ⟨b0, true, true, true, true, true, b6, true, true, b9, b10, b11, b12, b13, b14, v105, _, _, v108, _, _, v111, v112, v113, v114, v3, rfl, rfl, { HF.out with e8 := fun _ => rfl }⟩
    · have hr := ready_at hi rfl
      have hb : b9 = false := hr.1
      clear hr hi
      subst hb
      refine wpOp_step rfl (fun K hK => ?_)
      go_simp
      refine hK _ _ ?_
      clear hK K
      exact ⟨b0, b1, b2, b3, b4, b5, b6, b7, b8, true, b10, b11, b12, b13, b14, v105, v106, v107, v108, v109, v110, _, v112, v113, v114, v3, rfl, rfl, { HF.out with e9 := fun _ => rfl }⟩
    · have hr := ready_at hi rfl
      have hb : b10 = false := hr.1
      have h9 : b9 = true := hr.2 0 _ rfl rfl
      clear hr hi
      subst hb
      subst h9
      obtain rfl := HF.out.e9 rfl
      have y0 := HF.out.hV.cell 2
      simp only [List.getElem?_toArray, List.getElem?_cons_zero, List.getElem?_cons_succ] at y0
      refine wpOp_step rfl (fun K hK => ?_)
      go_simp
      refine hK _ _ ?_
      clear hK K
      exact ⟨b0, b1, b2, b3, b4, b5, b6, b7, b8, true, true, b11, b12, b13, b14, v105, v106, v107, v108, v109, v110, _, _, v113, v114, v3, rfl, rfl, { HF.out with e10 := fun _ => rfl }⟩
    · have hr := ready_at hi rfl
      have hb : b11 = false := hr.1
      have h10 : b10 = true := hr.2 0 _ rfl rfl
      clear hr hi
      subst hb
      subst h10
      obtain rfl := HF.out.e10 rfl
      have hGx := HG.out.below HF.out.below HG.out.size
      have HGX := Lib.hid hGx
      clear hGx
      refine wpOp_step rfl (fun K hK => ?_)
      go_simp
      refine (C8.out _ HGX.out).mono ?_
      rintro e w2 ⟨rfl, hb2⟩
      have hst : StepW w.heap.size wx w2 := .of_below hb2
      simp only []
      refine hK _ _ ?_
      clear hK K
      refine ⟨b0, b1, b2, b3, b4, b5, b6, b7, b8, b9, true, true, b12, b13, b14, v105, v106, v107, v108, v109, v110, v111, _, _, v114, v3, rfl, rfl, ?_⟩
      have hS0 := HF.out.hS0
      obtain ⟨cs, hcs, hcz⟩ := hS0
      exact { HF.out with e11 := fun _ => rfl, e1 := fun h => (by obtain ⟨g, hv, hg, hm, h107⟩ := HF.out.e1 h; exact ⟨g, hv, hg, hm.keep (hb2.block g hm.lt), h107⟩), hV := hst.blk HF.out.hV (by omega), hD := hst.blk HF.out.hD (by omega), hS0 := ⟨cs, hst.blk hcs (by omega), hcz⟩, hS := fun h => hst.blk (HF.out.hS h) (by omega), below := hst.below HF.out.below (Nat.le_refl _) }
    · have hr := ready_at hi rfl
      have hb : b12 = false := hr.1
      have h8 : b8 = true := hr.2 0 _ rfl rfl
      have h11 : b11 = true := hr.2 1 _ rfl rfl
      clear hr hi
      subst hb
      subst h8 h11
      obtain rfl := HF.out.e8 rfl
      obtain rfl := HF.out.e11 rfl
      have hno : ¬ (9223372036854775807 < (headB 6).size + List.length W1) := by omega
      refine wpOp_step rfl (fun K hK => ?_)
      go_simp
      try rw [if_neg hno]
      try go_simp
      refine hK _ _ ?_
      clear hK K
      exact ⟨b0, b1, b2, b3, b4, b5, b6, b7, true, b9, b10, true, true, b13, b14, v105, v106, v107, v108, v109, _, v111, v112, _, _, v3, rfl, rfl, { HF.out with e12 := fun _ => rfl }⟩
    · have hr := ready_at hi rfl
      have hb : b13 = false := hr.1
      have h0 : b0 = true := hr.2 0 _ rfl rfl
      have h11 : b11 = true := hr.2 1 _ rfl rfl
      clear hr hi
      subst hb
      subst h0
      obtain rfl := HF.out.e0 rfl
      obtain ⟨cs, hcs, hcz⟩ := HF.out.hS0
      obtain ⟨a0, a1, a2, a3, a4, a5, a6, a7, rfl⟩ := eight cs hcz
      have y0 : wx.cell? ⟨w.heap.size + 1, 0, none⟩ = some a0 := hcs.cell 0
      have f0 : wx.frozen? ⟨w.heap.size + 1, 0, none⟩ = false := hcs.frozen 0
      have y1 : wx.cell? ⟨w.heap.size + 1, 1, none⟩ = some a1 := hcs.cell 1
      have f1 : wx.frozen? ⟨w.heap.size + 1, 1, none⟩ = false := hcs.frozen 1
      have y2 : wx.cell? ⟨w.heap.size + 1, 2, none⟩ = some a2 := hcs.cell 2
      have f2 : wx.frozen? ⟨w.heap.size + 1, 2, none⟩ = false := hcs.frozen 2
      have y3 : wx.cell? ⟨w.heap.size + 1, 3, none⟩ = some a3 := hcs.cell 3
      have f3 : wx.frozen? ⟨w.heap.size + 1, 3, none⟩ = false := hcs.frozen 3
      have y4 : wx.cell? ⟨w.heap.size + 1, 4, none⟩ = some a4 := hcs.cell 4
      have f4 : wx.frozen? ⟨w.heap.size + 1, 4, none⟩ = false := hcs.frozen 4
      have y5 : wx.cell? ⟨w.heap.size + 1, 5, none⟩ = some a5 := hcs.cell 5
      have f5 : wx.frozen? ⟨w.heap.size + 1, 5, none⟩ = false := hcs.frozen 5
      have y6 : wx.cell? ⟨w.heap.size + 1, 6, none⟩ = some a6 := hcs.cell 6
      have f6 : wx.frozen? ⟨w.heap.size + 1, 6, none⟩ = false := hcs.frozen 6
      have y7 : wx.cell? ⟨w.heap.size + 1, 7, none⟩ = some a7 := hcs.cell 7
      have f7 : wx.frozen? ⟨w.heap.size + 1, 7, none⟩ = false := hcs.frozen 7
      have hf := over8 (.int .u8 6) (.bool false) (.string ⟨nm.toArray⟩) (.string ⟨#[]⟩) (.int .i64 0) (.int .i64 0) (.int .i64 0) (.int .i64 0) hcs rfl
      have hst := set8 (T := w.heap.size) (D := w.heap.size + 1) (.int .u8 6) (.bool false) (.string ⟨nm.toArray⟩) (.string ⟨#[]⟩) (.int .i64 0) (.int .i64 0) (.int .i64 0) (.int .i64 0) wx
      refine wpOp_step rfl (fun K hK => ?_)
      go_simp
      refine hK _ _ ?_
      clear hK K
      generalize ((((((((wx.setCell ⟨w.heap.size + 1, 0, none⟩ (.int .u8 6)).setCell ⟨w.heap.size + 1, 1, none⟩ (.bool false)).setCell ⟨w.heap.size + 1, 2, none⟩ (.string ⟨nm.toArray⟩)).setCell ⟨w.heap.size + 1, 3, none⟩ (.string ⟨#[]⟩)).setCell ⟨w.heap.size + 1, 4, none⟩ (.int .i64 0)).setCell ⟨w.heap.size + 1, 5, none⟩ (.int .i64 0)).setCell ⟨w.heap.size + 1, 6, none⟩ (.int .i64 0)).setCell ⟨w.heap.size + 1, 7, none⟩ (.int .i64 0)) = wf at hf hst ⊢
      refine ⟨true, b1, b2, b3, b4, b5, b6, b7, b8, b9, b10, b11, b12, true, b14, _, v106, v107, v108, v109, v110, v111, v112, v113, v114, v3, rfl, rfl, ?_⟩
      exact { HF.out with e1 := fun h => (by obtain ⟨g, hv, hg, hm, h107⟩ := HF.out.e1 h; exact ⟨g, hv, hg, hm.keep (hst.1 g (by omega)), h107⟩), hV := (hst.1 _ (by omega)).trans HF.out.hV, hD := (hst.1 _ (by omega)).trans HF.out.hD, hS0 := ⟨_, hf, rfl⟩, hS := fun _ => hf, below := hst.2 w HF.out.below (by omega) }
    · have hr := ready_at hi rfl
      have hb : b14 = false := hr.1
      have h12 : b12 = true := hr.2 0 _ rfl rfl
      have h13 : b13 = true := hr.2 1 _ rfl rfl
      clear hr hi
      subst hb
      subst h12
      obtain rfl := HF.out.e12 rfl
      refine wpOp_step rfl (fun K hK => ?_)
      go_simp
      refine hK _ _ ?_
      clear hK K
      exact ⟨b0, b1, b2, b3, b4, b5, b6, b7, b8, b9, b10, b11, true, b13, true, v105, v106, v107, v108, v109, v110, v111, v112, v113, _, _, rfl, rfl, { HF.out with e14 := fun _ => rfl }⟩
end Go.Proofs.YtadncponjpdcmaaGreatDoor

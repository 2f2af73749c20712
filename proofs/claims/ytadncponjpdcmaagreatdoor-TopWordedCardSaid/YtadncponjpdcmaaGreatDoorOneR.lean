/-
  lines.one, at its four types: a word is written, or read. (Printed by wip/mkone.py.)
-/
import Derived.Test.YtadncponjpdcmaaGreatDoorOneBase
namespace Go.Proofs.YtadncponjpdcmaaGreatDoor
open Go.RowKit


set_option maxHeartbeats 2000000 in
set_option maxRecDepth 100000 in
theorem one_str_no (B K D off : Nat) (ws : List Bs) (bad : Bool) (x : Bs) (w : World) (h : RdC B K ws bad w) (hbw : bad = true ∨ ws = []) (hx : w.cell? ⟨D, off, none⟩ = some (str x))
    (hxs : x.length ≤ 1000000000) (hG : Glob w) :
    Calls Tryz.prog 59 #[.pointer (some ⟨K, 0, none⟩), .pointer (some ⟨D, off, none⟩), .func (.func 20) #[] #[], .func (.func 60) #[] #[]] w fun e w' => e = .returned (.tuple #[]) ∧ RdC B K ws true w' ∧ Keep (fun i => i ≠ K) w w' := by
  have c20 : ∀ w1, Glob w1 → Calls Tryz.prog 20 #[str x] w1 (fun e w' => e = .returned (str (wordL x)) ∧ Below w1.heap.size w1 w') := by
    intro w1 hG1
    exact (Word_any ⟨x.toArray⟩ w1 (by rw [Lib.size_eq]; exact hxs) hG1)
  generalize wordL x = W at c20
  have C20 := Lib.hid c20
  have HR := Lib.hid h
  have HBW := Lib.hid hbw
  have HG := Lib.hid hG
  clear c20 hG h hbw
  go_enter Tryz.func59, Tryz.ntmps59
  go_wp2_with fail
  refine (C20.out _ HG.out).mono ?_
  rintro e w1 ⟨rfl, hb⟩
  have hr1 := HR.out.below hb
  obtain ⟨a1, _, _⟩ := hr1.cells
  have HR1 := Lib.hid hr1
  have HB := Lib.hid hb
  clear hr1 hb
  go_wp2_with fail
  refine (next_no B K ws bad w1 HR1.out HBW.out).mono ?_
  rintro e w2 ⟨rfl, hr2, hk2⟩
  obtain ⟨_, a2, f2⟩ := hr2.cells
  have HR2 := Lib.hid hr2
  have HK2 := Lib.hid hk2
  clear hr2 hk2 a1
  go_wp2
  go_end0
  exact ⟨rfl, HR2.out.setbad true, ((Keep.of_below HB.out (fun k hk hk2 => hk2)).trans HK2.out).blkset (by simp) _⟩

set_option maxHeartbeats 4000000 in
set_option maxRecDepth 100000 in
theorem one_str_yes (B K D off : Nat) (s : Bs) (ws : List Bs) (cs : Array Value) (x : Bs) (w : World) (h : RdC B K (s :: ws) false w) (hD : Blk w D 33 cs) (hBD : B ≤ D) (hDK : D ≠ K)
    (hx : cs[off]? = some (str x)) (hss : s.length ≤ 1000000000) (hxs : x.length ≤ 1000000000) (hG : Glob w) (hB8 : 8 ≤ B) :
    Calls Tryz.prog 59 #[.pointer (some ⟨K, 0, none⟩), .pointer (some ⟨D, off, none⟩), .func (.func 20) #[] #[], .func (.func 60) #[] #[]] w (RPost B K D ws (cs.setIfInBounds off (str (textR s))) (decide (wordL (textR s) ≠ s) || longB s) w) := by
  have c20 : ∀ w1, Glob w1 → Calls Tryz.prog 20 #[str x] w1 (fun e w' => e = .returned (str (wordL x)) ∧ Below w1.heap.size w1 w') := by
    intro w1 hG1
    exact (Word_any ⟨x.toArray⟩ w1 (by rw [Lib.size_eq]; exact hxs) hG1)
  have c60 : ∀ w1, Glob w1 → Calls Tryz.prog 60 #[str s] w1 (fun e w' => e = .returned (str (textR s)) ∧ Below w1.heap.size w1 w') := by
    intro w1 hG1
    exact (readText_any ⟨s.toArray⟩ w1 (by rw [Lib.size_eq]; exact hss) hG1)
  have c21 : ∀ w1, Glob w1 → Calls Tryz.prog 20 #[str (textR s)] w1 (fun e w' => e = .returned (str (wordL (textR s))) ∧ Below w1.heap.size w1 w') := by
    intro w1 hG1
    exact (Word_any ⟨(textR s).toArray⟩ w1 (by rw [Lib.size_eq]; exact Nat.le_trans (textR_length s) hss) hG1)
  generalize wordL (textR s) = W2 at c21 ⊢
  generalize textR s = r at c60 c21 ⊢
  generalize wordL x = W at c20
  obtain ⟨bb, hbb⟩ : ∃ bb, (decide (W2 ≠ s) || longB s) = bb := ⟨_, rfl⟩
  rw [hbb]
  have HBB := Lib.hid hbb
  clear hbb
  have hoff : off < cs.size := (Array.getElem?_eq_some_iff.1 hx).1
  have C20 := Lib.hid c20
  have C60 := Lib.hid c60
  have C21 := Lib.hid c21
  have HR := Lib.hid h
  have HG := Lib.hid hG
  have HD := Lib.hid hD
  have hx0 : w.cell? ⟨D, off, none⟩ = some (str x) := (hD.cell off).trans hx
  have HX := Lib.hid hx
  clear c20 c60 c21 hG h hD hx
  go_enter Tryz.func59, Tryz.ntmps59
  go_wp2_with fail
  refine (C20.out _ HG.out).mono ?_
  rintro e w1 ⟨rfl, hb⟩
  have hr1 := HR.out.below hb
  have hD1 : Blk w1 D 33 cs := HD.out.below hb HD.out.lt
  have hG1 : Glob w1 := HG.out.below hb HG.out.size
  obtain ⟨a1, _, _⟩ := hr1.cells
  have HR1 := Lib.hid hr1
  have HB := Lib.hid hb
  have HD1 := Lib.hid hD1
  have HG1 := Lib.hid hG1
  clear hr1 hb hD1 hG1 hx0
  go_wp2_with fail
  refine (next_yes B K s ws w1 HR1.out).mono ?_
  rintro e w2 ⟨rfl, hr2, hk2⟩
  obtain ⟨_, a2, f2⟩ := hr2.cells
  have hD2 : Blk w2 D 33 cs := HD1.out.kept hk2 hDK
  have hBK := HR.out.1
  have hG2 : Glob w2 := HG1.out.keep hk2 (by intro i hi; omega)
  have HR2 := Lib.hid hr2
  have HK2 := Lib.hid hk2
  have HD2 := Lib.hid hD2
  have HG2 := Lib.hid hG2
  clear hr2 hk2 hD2 hG2 a1
  go_wp2_with fail
  refine (C60.out _ HG2.out).mono ?_
  rintro e w3 ⟨rfl, hb3⟩
  have hr3 := HR2.out.below hb3
  have hD3 : Blk w3 D 33 cs := HD2.out.below hb3 HD2.out.lt
  have hG3 : Glob w3 := HG2.out.below hb3 HG2.out.size
  have x3 : w3.cell? ⟨D, off, none⟩ = some (str x) := (hD3.cell off).trans HX.out
  have f3 : w3.frozen? ⟨D, off, none⟩ = false := hD3.frozen off
  have hD4 := hD3.set_ off (str r)
  have x4 : (w3.setCell ⟨D, off, none⟩ (str r)).cell? ⟨D, off, none⟩ = some (str r) := by rw [hD4.cell off]; simp [hoff]
  have hk4 : Keep (fun i => i ≠ D) w3 (w3.setCell ⟨D, off, none⟩ (str r)) := (Keep.refl _ w3).blkset (by simp) _
  have hr4 : RdC B K ws false (w3.setCell ⟨D, off, none⟩ (str r)) := hr3.kept hk4 hBD (fun e => hDK e.symm)
  have hG4 : Glob (w3.setCell ⟨D, off, none⟩ (str r)) := hG3.keep hk4 (by intro i hi; omega)
  have HB3 := Lib.hid hb3
  have HR4 := Lib.hid hr4
  have HD4 := Lib.hid hD4
  have HK4 := Lib.hid hk4
  have HG4 := Lib.hid hG4
  clear hb3 hr3 hr4 hD3 hD4 hk4 hG3 hG4 a2 f2
  go_wp2_with fail
  refine (C21.out _ HG4.out).mono ?_
  rintro e w5 ⟨rfl, hb5⟩
  have hr5 := HR4.out.below hb5
  have hD5 := HD4.out.below hb5 HD4.out.lt
  obtain ⟨_, a5, f5⟩ := hr5.cells
  have hr6f := hr5.setbad false
  have hr6t := hr5.setbad true
  obtain ⟨_, b6, g6⟩ := hr6f.cells
  obtain ⟨_, b7, g7⟩ := hr6t.cells
  have HR6F := Lib.hid hr6f
  have HR6T := Lib.hid hr6t
  have HD5 := Lib.hid hD5
  have hKall : Keep (fun i => i ≠ K ∧ i ≠ D) w w5 :=
    (((Keep.of_below HB.out (fun k hk hk2 => hk2)).trans (HK2.out.mono (fun k _ h => h.1))).trans (Keep.of_below HB3.out (fun k hk hk2 => hk2))).trans ((HK4.out.mono (fun k _ h => h.2)).trans (Keep.of_below hb5 (fun k hk hk2 => hk2)))
  have HKALL := Lib.hid hKall
  clear hr5 hD5 hr6f hr6t hb5 hKall x3 f3 x4
  have HLB := Lib.hid (longB_int s)
  by_cases hne : W2 = s
  · have he : (W2 == s) = true := by rw [hne]; simp
    have hnq : (W2 != s) = false := by rw [hne]; simp
    have hd : decide (W2 ≠ s) = false := by simp [hne]
    have HE : Hid (longB s = bb) := Lib.hid (by rw [← HBB.out, hd, Bool.false_or])
    clear hne hd
    go_wp2
    go_end0
    rw [HLB.out, HE.out]
    exact r_done hDK HR6F.out HD5.out HKALL.out bb
  · have he : (W2 == s) = false := by simpa using hne
    have hnq : (W2 != s) = true := by simpa using hne
    have hd : decide (W2 ≠ s) = true := by simp [hne]
    obtain rfl : bb = true := by rw [← HBB.out, hd, Bool.true_or]
    clear hne hd
    go_wp2
    go_end0
    exact r_done hDK HR6T.out HD5.out HKALL.out true


set_option maxHeartbeats 2000000 in
set_option maxRecDepth 100000 in
theorem one_int_no (B K D off : Nat) (ws : List Bs) (bad : Bool) (x : Int) (w : World) (h : RdC B K ws bad w) (hbw : bad = true ∨ ws = []) (hx : w.cell? ⟨D, off, none⟩ = some (.int .i64 x))
    (hx0 : -9223372036854775808 ≤ x) (hx1 : x ≤ 9223372036854775807) (hG : Glob w) :
    Calls Tryz.prog 61 #[.pointer (some ⟨K, 0, none⟩), .pointer (some ⟨D, off, none⟩), .func (.func 9) #[] #[], .func (.func 62) #[] #[]] w fun e w' => e = .returned (.tuple #[]) ∧ RdC B K ws true w' ∧ Keep (fun i => i ≠ K) w w' := by
  have c20 : ∀ w1, Glob w1 → Calls Tryz.prog 9 #[.int .i64 x] w1 (fun e w' => e = .returned (str (Lib.itoa x)) ∧ Below w1.heap.size w1 w') := by
    intro w1 hG1
    exact (Itoa_any x hx0 hx1 w1 hG1)
  generalize Lib.itoa x = W at c20
  have C20 := Lib.hid c20
  have HR := Lib.hid h
  have HBW := Lib.hid hbw
  have HG := Lib.hid hG
  clear c20 hG h hbw
  go_enter Tryz.func61, Tryz.ntmps61
  go_wp2_with fail
  refine (C20.out _ HG.out).mono ?_
  rintro e w1 ⟨rfl, hb⟩
  have hr1 := HR.out.below hb
  obtain ⟨a1, _, _⟩ := hr1.cells
  have HR1 := Lib.hid hr1
  have HB := Lib.hid hb
  clear hr1 hb
  go_wp2_with fail
  refine (next_no B K ws bad w1 HR1.out HBW.out).mono ?_
  rintro e w2 ⟨rfl, hr2, hk2⟩
  obtain ⟨_, a2, f2⟩ := hr2.cells
  have HR2 := Lib.hid hr2
  have HK2 := Lib.hid hk2
  clear hr2 hk2 a1
  go_wp2
  go_end0
  exact ⟨rfl, HR2.out.setbad true, ((Keep.of_below HB.out (fun k hk hk2 => hk2)).trans HK2.out).blkset (by simp) _⟩

set_option maxHeartbeats 4000000 in
set_option maxRecDepth 100000 in
theorem one_int_yes (B K D off : Nat) (s : Bs) (ws : List Bs) (cs : Array Value) (x : Int) (w : World) (h : RdC B K (s :: ws) false w) (hD : Blk w D 33 cs) (hBD : B ≤ D) (hDK : D ≠ K)
    (hx : cs[off]? = some (.int .i64 x)) (hss : s.length ≤ 1000000000) (hx0 : -9223372036854775808 ≤ x) (hx1 : x ≤ 9223372036854775807) (hG : Glob w) (hB8 : 8 ≤ B) :
    Calls Tryz.prog 61 #[.pointer (some ⟨K, 0, none⟩), .pointer (some ⟨D, off, none⟩), .func (.func 9) #[] #[], .func (.func 62) #[] #[]] w (RPost B K D ws (cs.setIfInBounds off (.int .i64 (numR s))) (decide (Lib.itoa (numR s) ≠ s) || longB s) w) := by
  have c20 : ∀ w1, Glob w1 → Calls Tryz.prog 9 #[.int .i64 x] w1 (fun e w' => e = .returned (str (Lib.itoa x)) ∧ Below w1.heap.size w1 w') := by
    intro w1 hG1
    exact (Itoa_any x hx0 hx1 w1 hG1)
  have c60 : ∀ w1, Glob w1 → Calls Tryz.prog 62 #[str s] w1 (fun e w' => e = .returned (.int .i64 (numR s)) ∧ Below w1.heap.size w1 w') := by
    intro w1 hG1
    exact (readInt_any ⟨s.toArray⟩ w1 (by rw [Lib.size_eq]; exact hss) hG1)
  have c21 : ∀ w1, Glob w1 → Calls Tryz.prog 9 #[.int .i64 (numR s)] w1 (fun e w' => e = .returned (str (Lib.itoa (numR s))) ∧ Below w1.heap.size w1 w') := by
    intro w1 hG1
    exact (Itoa_any (numR s) (numR_bounds s).1 (numR_bounds s).2 w1 hG1)
  generalize Lib.itoa (numR s) = W2 at c21 ⊢
  generalize numR s = r at c60 c21 ⊢
  generalize Lib.itoa x = W at c20
  obtain ⟨bb, hbb⟩ : ∃ bb, (decide (W2 ≠ s) || longB s) = bb := ⟨_, rfl⟩
  rw [hbb]
  have HBB := Lib.hid hbb
  clear hbb
  have hoff : off < cs.size := (Array.getElem?_eq_some_iff.1 hx).1
  have C20 := Lib.hid c20
  have C60 := Lib.hid c60
  have C21 := Lib.hid c21
  have HR := Lib.hid h
  have HG := Lib.hid hG
  have HD := Lib.hid hD
  have hx0 : w.cell? ⟨D, off, none⟩ = some (.int .i64 x) := (hD.cell off).trans hx
  have HX := Lib.hid hx
  clear c20 c60 c21 hG h hD hx
  go_enter Tryz.func61, Tryz.ntmps61
  go_wp2_with fail
  refine (C20.out _ HG.out).mono ?_
  rintro e w1 ⟨rfl, hb⟩
  have hr1 := HR.out.below hb
  have hD1 : Blk w1 D 33 cs := HD.out.below hb HD.out.lt
  have hG1 : Glob w1 := HG.out.below hb HG.out.size
  obtain ⟨a1, _, _⟩ := hr1.cells
  have HR1 := Lib.hid hr1
  have HB := Lib.hid hb
  have HD1 := Lib.hid hD1
  have HG1 := Lib.hid hG1
  clear hr1 hb hD1 hG1 hx0
  go_wp2_with fail
  refine (next_yes B K s ws w1 HR1.out).mono ?_
  rintro e w2 ⟨rfl, hr2, hk2⟩
  obtain ⟨_, a2, f2⟩ := hr2.cells
  have hD2 : Blk w2 D 33 cs := HD1.out.kept hk2 hDK
  have hBK := HR.out.1
  have hG2 : Glob w2 := HG1.out.keep hk2 (by intro i hi; omega)
  have HR2 := Lib.hid hr2
  have HK2 := Lib.hid hk2
  have HD2 := Lib.hid hD2
  have HG2 := Lib.hid hG2
  clear hr2 hk2 hD2 hG2 a1
  go_wp2_with fail
  refine (C60.out _ HG2.out).mono ?_
  rintro e w3 ⟨rfl, hb3⟩
  have hr3 := HR2.out.below hb3
  have hD3 : Blk w3 D 33 cs := HD2.out.below hb3 HD2.out.lt
  have hG3 : Glob w3 := HG2.out.below hb3 HG2.out.size
  have x3 : w3.cell? ⟨D, off, none⟩ = some (.int .i64 x) := (hD3.cell off).trans HX.out
  have f3 : w3.frozen? ⟨D, off, none⟩ = false := hD3.frozen off
  have hD4 := hD3.set_ off (.int .i64 r)
  have x4 : (w3.setCell ⟨D, off, none⟩ (.int .i64 r)).cell? ⟨D, off, none⟩ = some (.int .i64 r) := by rw [hD4.cell off]; simp [hoff]
  have hk4 : Keep (fun i => i ≠ D) w3 (w3.setCell ⟨D, off, none⟩ (.int .i64 r)) := (Keep.refl _ w3).blkset (by simp) _
  have hr4 : RdC B K ws false (w3.setCell ⟨D, off, none⟩ (.int .i64 r)) := hr3.kept hk4 hBD (fun e => hDK e.symm)
  have hG4 : Glob (w3.setCell ⟨D, off, none⟩ (.int .i64 r)) := hG3.keep hk4 (by intro i hi; omega)
  have HB3 := Lib.hid hb3
  have HR4 := Lib.hid hr4
  have HD4 := Lib.hid hD4
  have HK4 := Lib.hid hk4
  have HG4 := Lib.hid hG4
  clear hb3 hr3 hr4 hD3 hD4 hk4 hG3 hG4 a2 f2
  go_wp2_with fail
  refine (C21.out _ HG4.out).mono ?_
  rintro e w5 ⟨rfl, hb5⟩
  have hr5 := HR4.out.below hb5
  have hD5 := HD4.out.below hb5 HD4.out.lt
  obtain ⟨_, a5, f5⟩ := hr5.cells
  have hr6f := hr5.setbad false
  have hr6t := hr5.setbad true
  obtain ⟨_, b6, g6⟩ := hr6f.cells
  obtain ⟨_, b7, g7⟩ := hr6t.cells
  have HR6F := Lib.hid hr6f
  have HR6T := Lib.hid hr6t
  have HD5 := Lib.hid hD5
  have hKall : Keep (fun i => i ≠ K ∧ i ≠ D) w w5 :=
    (((Keep.of_below HB.out (fun k hk hk2 => hk2)).trans (HK2.out.mono (fun k _ h => h.1))).trans (Keep.of_below HB3.out (fun k hk hk2 => hk2))).trans ((HK4.out.mono (fun k _ h => h.2)).trans (Keep.of_below hb5 (fun k hk hk2 => hk2)))
  have HKALL := Lib.hid hKall
  clear hr5 hD5 hr6f hr6t hb5 hKall x3 f3 x4
  have HLB := Lib.hid (longB_int s)
  by_cases hne : W2 = s
  · have he : (W2 == s) = true := by rw [hne]; simp
    have hnq : (W2 != s) = false := by rw [hne]; simp
    have hd : decide (W2 ≠ s) = false := by simp [hne]
    have HE : Hid (longB s = bb) := Lib.hid (by rw [← HBB.out, hd, Bool.false_or])
    clear hne hd
    go_wp2
    go_end0
    rw [HLB.out, HE.out]
    exact r_done hDK HR6F.out HD5.out HKALL.out bb
  · have he : (W2 == s) = false := by simpa using hne
    have hnq : (W2 != s) = true := by simpa using hne
    have hd : decide (W2 ≠ s) = true := by simp [hne]
    obtain rfl : bb = true := by rw [← HBB.out, hd, Bool.true_or]
    clear hne hd
    go_wp2
    go_end0
    exact r_done hDK HR6T.out HD5.out HKALL.out true


set_option maxHeartbeats 2000000 in
set_option maxRecDepth 100000 in
theorem one_bool_no (B K D off : Nat) (ws : List Bs) (bad : Bool) (x : Bool) (w : World) (h : RdC B K ws bad w) (hbw : bad = true ∨ ws = []) (hx : w.cell? ⟨D, off, none⟩ = some (.bool x))
    (hG : Glob w) :
    Calls Tryz.prog 56 #[.pointer (some ⟨K, 0, none⟩), .pointer (some ⟨D, off, none⟩), .func (.func 57) #[] #[], .func (.func 58) #[] #[]] w fun e w' => e = .returned (.tuple #[]) ∧ RdC B K ws true w' ∧ Keep (fun i => i ≠ K) w w' := by
  have c20 : ∀ w1, Glob w1 → Calls Tryz.prog 57 #[.bool x] w1 (fun e w' => e = .returned (str (defW x)) ∧ Below w1.heap.size w1 w') := by
    intro w1 hG1
    exact (below_same (defW_any x w1))
  generalize defW x = W at c20
  have C20 := Lib.hid c20
  have HR := Lib.hid h
  have HBW := Lib.hid hbw
  have HG := Lib.hid hG
  clear c20 hG h hbw
  go_enter Tryz.func56, Tryz.ntmps56
  go_wp2_with fail
  refine (C20.out _ HG.out).mono ?_
  rintro e w1 ⟨rfl, hb⟩
  have hr1 := HR.out.below hb
  obtain ⟨a1, _, _⟩ := hr1.cells
  have HR1 := Lib.hid hr1
  have HB := Lib.hid hb
  clear hr1 hb
  go_wp2_with fail
  refine (next_no B K ws bad w1 HR1.out HBW.out).mono ?_
  rintro e w2 ⟨rfl, hr2, hk2⟩
  obtain ⟨_, a2, f2⟩ := hr2.cells
  have HR2 := Lib.hid hr2
  have HK2 := Lib.hid hk2
  clear hr2 hk2 a1
  go_wp2
  go_end0
  exact ⟨rfl, HR2.out.setbad true, ((Keep.of_below HB.out (fun k hk hk2 => hk2)).trans HK2.out).blkset (by simp) _⟩

set_option maxHeartbeats 4000000 in
set_option maxRecDepth 100000 in
theorem one_bool_yes (B K D off : Nat) (s : Bs) (ws : List Bs) (cs : Array Value) (x : Bool) (w : World) (h : RdC B K (s :: ws) false w) (hD : Blk w D 33 cs) (hBD : B ≤ D) (hDK : D ≠ K)
    (hx : cs[off]? = some (.bool x)) (hss : s.length ≤ 1000000000) (hG : Glob w) (hB8 : 8 ≤ B) :
    Calls Tryz.prog 56 #[.pointer (some ⟨K, 0, none⟩), .pointer (some ⟨D, off, none⟩), .func (.func 57) #[] #[], .func (.func 58) #[] #[]] w (RPost B K D ws (cs.setIfInBounds off (.bool (defR s))) (decide (defW (defR s) ≠ s) || longB s) w) := by
  have c20 : ∀ w1, Glob w1 → Calls Tryz.prog 57 #[.bool x] w1 (fun e w' => e = .returned (str (defW x)) ∧ Below w1.heap.size w1 w') := by
    intro w1 hG1
    exact (below_same (defW_any x w1))
  have c60 : ∀ w1, Glob w1 → Calls Tryz.prog 58 #[str s] w1 (fun e w' => e = .returned (.bool (defR s)) ∧ Below w1.heap.size w1 w') := by
    intro w1 hG1
    exact (below_same (defR_any ⟨s.toArray⟩ w1))
  have c21 : ∀ w1, Glob w1 → Calls Tryz.prog 57 #[.bool (defR s)] w1 (fun e w' => e = .returned (str (defW (defR s))) ∧ Below w1.heap.size w1 w') := by
    intro w1 hG1
    exact (below_same (defW_any (defR s) w1))
  generalize defW (defR s) = W2 at c21 ⊢
  generalize defR s = r at c60 c21 ⊢
  generalize defW x = W at c20
  obtain ⟨bb, hbb⟩ : ∃ bb, (decide (W2 ≠ s) || longB s) = bb := ⟨_, rfl⟩
  rw [hbb]
  have HBB := Lib.hid hbb
  clear hbb
  have hoff : off < cs.size := (Array.getElem?_eq_some_iff.1 hx).1
  have C20 := Lib.hid c20
  have C60 := Lib.hid c60
  have C21 := Lib.hid c21
  have HR := Lib.hid h
  have HG := Lib.hid hG
  have HD := Lib.hid hD
  have hx0 : w.cell? ⟨D, off, none⟩ = some (.bool x) := (hD.cell off).trans hx
  have HX := Lib.hid hx
  clear c20 c60 c21 hG h hD hx
  go_enter Tryz.func56, Tryz.ntmps56
  go_wp2_with fail
  refine (C20.out _ HG.out).mono ?_
  rintro e w1 ⟨rfl, hb⟩
  have hr1 := HR.out.below hb
  have hD1 : Blk w1 D 33 cs := HD.out.below hb HD.out.lt
  have hG1 : Glob w1 := HG.out.below hb HG.out.size
  obtain ⟨a1, _, _⟩ := hr1.cells
  have HR1 := Lib.hid hr1
  have HB := Lib.hid hb
  have HD1 := Lib.hid hD1
  have HG1 := Lib.hid hG1
  clear hr1 hb hD1 hG1 hx0
  go_wp2_with fail
  refine (next_yes B K s ws w1 HR1.out).mono ?_
  rintro e w2 ⟨rfl, hr2, hk2⟩
  obtain ⟨_, a2, f2⟩ := hr2.cells
  have hD2 : Blk w2 D 33 cs := HD1.out.kept hk2 hDK
  have hBK := HR.out.1
  have hG2 : Glob w2 := HG1.out.keep hk2 (by intro i hi; omega)
  have HR2 := Lib.hid hr2
  have HK2 := Lib.hid hk2
  have HD2 := Lib.hid hD2
  have HG2 := Lib.hid hG2
  clear hr2 hk2 hD2 hG2 a1
  go_wp2_with fail
  refine (C60.out _ HG2.out).mono ?_
  rintro e w3 ⟨rfl, hb3⟩
  have hr3 := HR2.out.below hb3
  have hD3 : Blk w3 D 33 cs := HD2.out.below hb3 HD2.out.lt
  have hG3 : Glob w3 := HG2.out.below hb3 HG2.out.size
  have x3 : w3.cell? ⟨D, off, none⟩ = some (.bool x) := (hD3.cell off).trans HX.out
  have f3 : w3.frozen? ⟨D, off, none⟩ = false := hD3.frozen off
  have hD4 := hD3.set_ off (.bool r)
  have x4 : (w3.setCell ⟨D, off, none⟩ (.bool r)).cell? ⟨D, off, none⟩ = some (.bool r) := by rw [hD4.cell off]; simp [hoff]
  have hk4 : Keep (fun i => i ≠ D) w3 (w3.setCell ⟨D, off, none⟩ (.bool r)) := (Keep.refl _ w3).blkset (by simp) _
  have hr4 : RdC B K ws false (w3.setCell ⟨D, off, none⟩ (.bool r)) := hr3.kept hk4 hBD (fun e => hDK e.symm)
  have hG4 : Glob (w3.setCell ⟨D, off, none⟩ (.bool r)) := hG3.keep hk4 (by intro i hi; omega)
  have HB3 := Lib.hid hb3
  have HR4 := Lib.hid hr4
  have HD4 := Lib.hid hD4
  have HK4 := Lib.hid hk4
  have HG4 := Lib.hid hG4
  clear hb3 hr3 hr4 hD3 hD4 hk4 hG3 hG4 a2 f2
  go_wp2_with fail
  refine (C21.out _ HG4.out).mono ?_
  rintro e w5 ⟨rfl, hb5⟩
  have hr5 := HR4.out.below hb5
  have hD5 := HD4.out.below hb5 HD4.out.lt
  obtain ⟨_, a5, f5⟩ := hr5.cells
  have hr6f := hr5.setbad false
  have hr6t := hr5.setbad true
  obtain ⟨_, b6, g6⟩ := hr6f.cells
  obtain ⟨_, b7, g7⟩ := hr6t.cells
  have HR6F := Lib.hid hr6f
  have HR6T := Lib.hid hr6t
  have HD5 := Lib.hid hD5
  have hKall : Keep (fun i => i ≠ K ∧ i ≠ D) w w5 :=
    (((Keep.of_below HB.out (fun k hk hk2 => hk2)).trans (HK2.out.mono (fun k _ h => h.1))).trans (Keep.of_below HB3.out (fun k hk hk2 => hk2))).trans ((HK4.out.mono (fun k _ h => h.2)).trans (Keep.of_below hb5 (fun k hk hk2 => hk2)))
  have HKALL := Lib.hid hKall
  clear hr5 hD5 hr6f hr6t hb5 hKall x3 f3 x4
  have HLB := Lib.hid (longB_int s)
  by_cases hne : W2 = s
  · have he : (W2 == s) = true := by rw [hne]; simp
    have hnq : (W2 != s) = false := by rw [hne]; simp
    have hd : decide (W2 ≠ s) = false := by simp [hne]
    have HE : Hid (longB s = bb) := Lib.hid (by rw [← HBB.out, hd, Bool.false_or])
    clear hne hd
    go_wp2
    go_end0
    rw [HLB.out, HE.out]
    exact r_done hDK HR6F.out HD5.out HKALL.out bb
  · have he : (W2 == s) = false := by simpa using hne
    have hnq : (W2 != s) = true := by simpa using hne
    have hd : decide (W2 ≠ s) = true := by simp [hne]
    obtain rfl : bb = true := by rw [← HBB.out, hd, Bool.true_or]
    clear hne hd
    go_wp2
    go_end0
    exact r_done hDK HR6T.out HD5.out HKALL.out true


set_option maxHeartbeats 2000000 in
set_option maxRecDepth 100000 in
theorem one_do_no {V N : Nat} (B K D off : Nat) (ws : List Bs) (bad : Bool) (x : Nat) (w : World) (h : RdC B K ws bad w) (hbw : bad = true ∨ ws = []) (hx : w.cell? ⟨D, off, none⟩ = some (.int .u8 x))
    (hx8 : x < 256) (hG : Glob w) (hN : Names V N w) :
    Calls Tryz.prog 28 #[.pointer (some ⟨K, 0, none⟩), .pointer (some ⟨D, off, none⟩), .func (.func 29) #[] #[.pointer (some ⟨V, 0, none⟩)], .func (.func 30) #[] #[.pointer (some ⟨V, 0, none⟩)]] w fun e w' => e = .returned (.tuple #[]) ∧ RdC B K ws true w' ∧ Keep (fun i => i ≠ K) w w' := by
  have c20 : ∀ w1, Glob w1 → Names V N w1 → Calls Tryz.prog 29 #[.int .u8 x, .pointer (some ⟨V, 0, none⟩)] w1 (fun e w' => e = .returned (str (doW x)) ∧ Below w1.heap.size w1 w') := by
    intro w1 hG1 hN1
    exact (below_same (doW_any V N x w1 hx8 hN1))
  generalize doW x = W at c20
  have C20 := Lib.hid c20
  have HR := Lib.hid h
  have HBW := Lib.hid hbw
  have HG := Lib.hid hG
  have HN := Lib.hid hN
  clear c20 hG h hbw hN
  go_enter Tryz.func28, Tryz.ntmps28
  go_wp2_with fail
  refine (C20.out _ HG.out HN.out).mono ?_
  rintro e w1 ⟨rfl, hb⟩
  have hr1 := HR.out.below hb
  obtain ⟨a1, _, _⟩ := hr1.cells
  have HR1 := Lib.hid hr1
  have HB := Lib.hid hb
  clear hr1 hb
  go_wp2_with fail
  refine (next_no B K ws bad w1 HR1.out HBW.out).mono ?_
  rintro e w2 ⟨rfl, hr2, hk2⟩
  obtain ⟨_, a2, f2⟩ := hr2.cells
  have HR2 := Lib.hid hr2
  have HK2 := Lib.hid hk2
  clear hr2 hk2 a1
  go_wp2
  go_end0
  exact ⟨rfl, HR2.out.setbad true, ((Keep.of_below HB.out (fun k hk hk2 => hk2)).trans HK2.out).blkset (by simp) _⟩

set_option maxHeartbeats 4000000 in
set_option maxRecDepth 100000 in
theorem one_do_yes {V N : Nat} (B K D off : Nat) (s : Bs) (ws : List Bs) (cs : Array Value) (x : Nat) (w : World) (h : RdC B K (s :: ws) false w) (hD : Blk w D 33 cs) (hBD : B ≤ D) (hDK : D ≠ K)
    (hx : cs[off]? = some (.int .u8 x)) (hss : s.length ≤ 1000000000) (hx8 : x < 256) (hG : Glob w) (hB8 : 8 ≤ B) (hN : Names V N w) (hVN : V ≠ K ∧ N ≠ K ∧ V ≠ D ∧ N ≠ D) :
    Calls Tryz.prog 28 #[.pointer (some ⟨K, 0, none⟩), .pointer (some ⟨D, off, none⟩), .func (.func 29) #[] #[.pointer (some ⟨V, 0, none⟩)], .func (.func 30) #[] #[.pointer (some ⟨V, 0, none⟩)]] w (RPost B K D ws (cs.setIfInBounds off (.int .u8 (doR s))) (decide (doW (doR s) ≠ s) || longB s) w) := by
  have c20 : ∀ w1, Glob w1 → Names V N w1 → Calls Tryz.prog 29 #[.int .u8 x, .pointer (some ⟨V, 0, none⟩)] w1 (fun e w' => e = .returned (str (doW x)) ∧ Below w1.heap.size w1 w') := by
    intro w1 hG1 hN1
    exact (below_same (doW_any V N x w1 hx8 hN1))
  have c60 : ∀ w1, Glob w1 → Names V N w1 → Calls Tryz.prog 30 #[str s, .pointer (some ⟨V, 0, none⟩)] w1 (fun e w' => e = .returned (.int .u8 (doR s)) ∧ Below w1.heap.size w1 w') := by
    intro w1 hG1 hN1
    exact (below_same (doR_any V N ⟨s.toArray⟩ w1 hN1))
  have c21 : ∀ w1, Glob w1 → Names V N w1 → Calls Tryz.prog 29 #[.int .u8 (doR s), .pointer (some ⟨V, 0, none⟩)] w1 (fun e w' => e = .returned (str (doW (doR s))) ∧ Below w1.heap.size w1 w') := by
    intro w1 hG1 hN1
    exact (below_same (doW_any V N (doR s) w1 (by unfold doR; omega) hN1))
  generalize doW (doR s) = W2 at c21 ⊢
  generalize doR s = r at c60 c21 ⊢
  generalize doW x = W at c20
  obtain ⟨bb, hbb⟩ : ∃ bb, (decide (W2 ≠ s) || longB s) = bb := ⟨_, rfl⟩
  rw [hbb]
  have HBB := Lib.hid hbb
  clear hbb
  have hoff : off < cs.size := (Array.getElem?_eq_some_iff.1 hx).1
  have C20 := Lib.hid c20
  have C60 := Lib.hid c60
  have C21 := Lib.hid c21
  have HR := Lib.hid h
  have HG := Lib.hid hG
  have HD := Lib.hid hD
  have hx0 : w.cell? ⟨D, off, none⟩ = some (.int .u8 x) := (hD.cell off).trans hx
  have HX := Lib.hid hx
  have HN := Lib.hid hN
  clear c20 c60 c21 hG h hD hx hN
  go_enter Tryz.func28, Tryz.ntmps28
  go_wp2_with fail
  refine (C20.out _ HG.out HN.out).mono ?_
  rintro e w1 ⟨rfl, hb⟩
  have hr1 := HR.out.below hb
  have hD1 : Blk w1 D 33 cs := HD.out.below hb HD.out.lt
  have hG1 : Glob w1 := HG.out.below hb HG.out.size
  have hN1 : Names V N w1 := HN.out.below hb
  have HN1 := Lib.hid hN1
  clear hN1
  obtain ⟨a1, _, _⟩ := hr1.cells
  have HR1 := Lib.hid hr1
  have HB := Lib.hid hb
  have HD1 := Lib.hid hD1
  have HG1 := Lib.hid hG1
  clear hr1 hb hD1 hG1 hx0
  go_wp2_with fail
  refine (next_yes B K s ws w1 HR1.out).mono ?_
  rintro e w2 ⟨rfl, hr2, hk2⟩
  obtain ⟨_, a2, f2⟩ := hr2.cells
  have hD2 : Blk w2 D 33 cs := HD1.out.kept hk2 hDK
  have hBK := HR.out.1
  have hG2 : Glob w2 := HG1.out.keep hk2 (by intro i hi; omega)
  have hN2 : Names V N w2 := HN1.out.kept hk2 hVN.1 hVN.2.1
  have HN2 := Lib.hid hN2
  clear hN2
  have HR2 := Lib.hid hr2
  have HK2 := Lib.hid hk2
  have HD2 := Lib.hid hD2
  have HG2 := Lib.hid hG2
  clear hr2 hk2 hD2 hG2 a1
  go_wp2_with fail
  refine (C60.out _ HG2.out HN2.out).mono ?_
  rintro e w3 ⟨rfl, hb3⟩
  have hr3 := HR2.out.below hb3
  have hD3 : Blk w3 D 33 cs := HD2.out.below hb3 HD2.out.lt
  have hG3 : Glob w3 := HG2.out.below hb3 HG2.out.size
  have hN3 : Names V N w3 := HN2.out.below hb3
  have x3 : w3.cell? ⟨D, off, none⟩ = some (.int .u8 x) := (hD3.cell off).trans HX.out
  have f3 : w3.frozen? ⟨D, off, none⟩ = false := hD3.frozen off
  have hD4 := hD3.set_ off (.int .u8 r)
  have x4 : (w3.setCell ⟨D, off, none⟩ (.int .u8 r)).cell? ⟨D, off, none⟩ = some (.int .u8 r) := by rw [hD4.cell off]; simp [hoff]
  have hk4 : Keep (fun i => i ≠ D) w3 (w3.setCell ⟨D, off, none⟩ (.int .u8 r)) := (Keep.refl _ w3).blkset (by simp) _
  have hr4 : RdC B K ws false (w3.setCell ⟨D, off, none⟩ (.int .u8 r)) := hr3.kept hk4 hBD (fun e => hDK e.symm)
  have hG4 : Glob (w3.setCell ⟨D, off, none⟩ (.int .u8 r)) := hG3.keep hk4 (by intro i hi; omega)
  have hN4 := hN3.kept hk4 hVN.2.2.1 hVN.2.2.2
  have HN4 := Lib.hid hN4
  clear hN3 hN4
  have HB3 := Lib.hid hb3
  have HR4 := Lib.hid hr4
  have HD4 := Lib.hid hD4
  have HK4 := Lib.hid hk4
  have HG4 := Lib.hid hG4
  clear hb3 hr3 hr4 hD3 hD4 hk4 hG3 hG4 a2 f2
  go_wp2_with fail
  refine (C21.out _ HG4.out HN4.out).mono ?_
  rintro e w5 ⟨rfl, hb5⟩
  have hr5 := HR4.out.below hb5
  have hD5 := HD4.out.below hb5 HD4.out.lt
  obtain ⟨_, a5, f5⟩ := hr5.cells
  have hr6f := hr5.setbad false
  have hr6t := hr5.setbad true
  obtain ⟨_, b6, g6⟩ := hr6f.cells
  obtain ⟨_, b7, g7⟩ := hr6t.cells
  have HR6F := Lib.hid hr6f
  have HR6T := Lib.hid hr6t
  have HD5 := Lib.hid hD5
  have hKall : Keep (fun i => i ≠ K ∧ i ≠ D) w w5 :=
    (((Keep.of_below HB.out (fun k hk hk2 => hk2)).trans (HK2.out.mono (fun k _ h => h.1))).trans (Keep.of_below HB3.out (fun k hk hk2 => hk2))).trans ((HK4.out.mono (fun k _ h => h.2)).trans (Keep.of_below hb5 (fun k hk hk2 => hk2)))
  have HKALL := Lib.hid hKall
  clear hr5 hD5 hr6f hr6t hb5 hKall x3 f3 x4
  have HLB := Lib.hid (longB_int s)
  by_cases hne : W2 = s
  · have he : (W2 == s) = true := by rw [hne]; simp
    have hnq : (W2 != s) = false := by rw [hne]; simp
    have hd : decide (W2 ≠ s) = false := by simp [hne]
    have HE : Hid (longB s = bb) := Lib.hid (by rw [← HBB.out, hd, Bool.false_or])
    clear hne hd
    go_wp2
    go_end0
    rw [HLB.out, HE.out]
    exact r_done hDK HR6F.out HD5.out HKALL.out bb
  · have he : (W2 == s) = false := by simpa using hne
    have hnq : (W2 != s) = true := by simpa using hne
    have hd : decide (W2 ≠ s) = true := by simp [hne]
    obtain rfl : bb = true := by rw [← HBB.out, hd, Bool.true_or]
    clear hne hd
    go_wp2
    go_end0
    exact r_done hDK HR6T.out HD5.out HKALL.out true

end Go.Proofs.YtadncponjpdcmaaGreatDoor

/-
  lines.one, at its four types: a word is written, or read. (Printed by wip/mkone.py.)
-/
import Derived.Test.YtadncponjpdcmaaGreatDoorOneBase
namespace Go.Proofs.YtadncponjpdcmaaGreatDoor
open Go.RowKit


set_option maxHeartbeats 2000000 in
set_option maxRecDepth 100000 in
theorem one_str_w (base K D off : Nat) (ws : List Bs) (bad : Bool) (x : Bs) (w : World) (h : WrC base K ws bad w) (hx : w.cell? ⟨D, off, none⟩ = some (str x))
    (hxs : x.length ≤ 1000000000) (hG : Glob w) (hws : ws.length ≤ 1000) :
    Calls Tryz.prog 59 #[.pointer (some ⟨K, 0, none⟩), .pointer (some ⟨D, off, none⟩), .func (.func 20) #[] #[], .func (.func 60) #[] #[]] w (WPost base K ws bad (wordL x) w) := by
  obtain ⟨i0, hi, hz0, hz1, hz2⟩ := info_parts info9
  obtain ⟨hK, hbase, v, hk, hown⟩ := h
  have c20 : ∀ w1, Glob w1 → Calls Tryz.prog 20 #[str x] w1 (fun e w' => e = .returned (str (wordL x)) ∧ Below w1.heap.size w1 w') := by
    intro w1 hG1
    exact (Word_any ⟨x.toArray⟩ w1 (by rw [Lib.size_eq]; exact hxs) hG1)
  have hWl : (wordL x).length ≤ 4000000000 := (by have := word_length x; omega)
  generalize wordL x = W at c20 hWl ⊢
  have C20 := Lib.hid c20
  have HB := Lib.hid hbase
  have hk1 := Lib.hid hk
  have hown1 := Lib.hid hown
  have HG := Lib.hid hG
  clear c20 hG hk hown
  go_enter Tryz.func59, Tryz.ntmps59
  go_wp2_with fail
  refine (C20.out _ HG.out).mono ?_
  rintro e w1 ⟨rfl, hb⟩
  have hk2 : Blk w1 K 45 #[v, .bool false, .bool bad] := hk1.out.below hb hk1.out.lt
  have hsz := hb.size
  have hown2 : w1.ownsRow base 9 1 v ws.length (ws.map str) := hown1.out.kept (row := none) ⟨hb.os, hb.tape, hb.output, hb.size, fun k hk _ => hb.block k hk⟩ (by cases v.ownBlock <;> simp)
  have a0 : w1.cell? ⟨K, 0, none⟩ = some v := hk2.cell 0
  have a1 : w1.cell? ⟨K, 1, none⟩ = some (.bool false) := hk2.cell 1
  have hK1 : KW base K w w1 := Keep.of_below hb (fun k hk hk2 => hk2)
  have HK1 := Lib.hid hK1
  have HK2 := Lib.hid hk2
  have HB1 := Lib.hid hb
  clear hk2 hK1 hb
  go_wp2_with (at_builtin; refine wpList_append_own _ rfl _ _ 29 rfl base 9 i0 (.string ⟨#[]⟩) 1 16 Tryz.underlying29 hi hz0 hz1 hz2 rfl (by decide) _ _ _ rfl (hown2.alloc _) ⟨w1.heap.size, 0, none⟩ 1 1 [str W] rfl rfl ?c1 ?c2 ?c3 ?c4 ?c5 ?_)
  case c1 =>
    intro j u hj
    match j, hj with
    | 0, hj => simp at hj; subst hj; simp [Addr.add]
  case c2 => intro u hu; simp at hu; subst hu; rfl
  case c3 => unfold maxLen; omega
  case c4 => omega
  case c5 => simp; omega
  intro v' w2 hown' hgrow _
  have hne := own_blk_ne (hown2.alloc (.cells #[str W] 9)) (HK2.out.alloc _) (by decide)
  have hb2 : Blk w2 K 45 #[v, .bool false, .bool bad] := (HK2.out.alloc _).grown hgrow (fun e => hne e.symm)
  have hrow : ∀ k, v.ownBlock = some k → base ≤ k := fun k hk => (hown2.lt k hk).1
  have hK3 : KW base K w w2 := (HK1.out.alloc _).grown hgrow (fun k hk h2 => by have := hrow k hk; omega)
  obtain ⟨g, cap, rfl⟩ : ∃ g cap, v' = .slice (some ⟨g, 0, none⟩) (ws.length + 1) cap := by
    rcases hown'.2 with ⟨_, h0⟩ | ⟨g, cap, cur, hv, _⟩
    · omega
    · exact ⟨g, cap, hv⟩
  have f0 : w2.frozen? ⟨K, 0, none⟩ = false := hb2.frozen 0
  have d0 : w2.cell? ⟨K, 0, none⟩ = some v := hb2.cell 0
  have hb3 := hb2.set_ 0 (.slice (some ⟨g, 0, none⟩) (ws.length + 1) cap)
  have d2 : (w2.setCell ⟨K, 0, none⟩ (.slice (some ⟨g, 0, none⟩) (ws.length + 1) cap)).cell? ⟨K, 2, none⟩ = some (.bool bad) := hb3.cell 2
  have f2 : (w2.setCell ⟨K, 0, none⟩ (.slice (some ⟨g, 0, none⟩) (ws.length + 1) cap)).frozen? ⟨K, 2, none⟩ = false := hb3.frozen 2
  have HB3 := Lib.hid hb3
  have HOWN := Lib.hid hown'
  have HK3 := Lib.hid hK3
  have HNE := Lib.hid (own_blk_ne hown' hb2 (by decide))
  have HOK : Hid (Lib.OthersKept 9 (some K) w w2) := Lib.hid (((others_below HB1.out).alloc _).grown hgrow (own_kind (hown2.alloc _)))
  clear hb2 hb3 hown' hgrow hK3 hrow hne hown2 a0 a1
  have HLB := Lib.hid (longB_int W)
  cases bad
  · go_wp2
    go_end0
    refine ⟨rfl, ?_⟩
    rw [Bool.false_or, HLB.out]
    exact w_done hK HB.out HB3.out HOWN.out HNE.out HK3.out HOK.out _
  · go_wp2
    go_end0
    exact ⟨rfl, w_done hK HB.out HB3.out HOWN.out HNE.out HK3.out HOK.out true⟩


set_option maxHeartbeats 2000000 in
set_option maxRecDepth 100000 in
theorem one_int_w (base K D off : Nat) (ws : List Bs) (bad : Bool) (x : Int) (w : World) (h : WrC base K ws bad w) (hx : w.cell? ⟨D, off, none⟩ = some (.int .i64 x))
    (hx0 : -9223372036854775808 ≤ x) (hx1 : x ≤ 9223372036854775807) (hG : Glob w) (hws : ws.length ≤ 1000) :
    Calls Tryz.prog 61 #[.pointer (some ⟨K, 0, none⟩), .pointer (some ⟨D, off, none⟩), .func (.func 9) #[] #[], .func (.func 62) #[] #[]] w (WPost base K ws bad (Lib.itoa x) w) := by
  obtain ⟨i0, hi, hz0, hz1, hz2⟩ := info_parts info9
  obtain ⟨hK, hbase, v, hk, hown⟩ := h
  have c20 : ∀ w1, Glob w1 → Calls Tryz.prog 9 #[.int .i64 x] w1 (fun e w' => e = .returned (str (Lib.itoa x)) ∧ Below w1.heap.size w1 w') := by
    intro w1 hG1
    exact (Itoa_any x hx0 hx1 w1 hG1)
  have hWl : (Lib.itoa x).length ≤ 4000000000 := (itoa_short x hx0 hx1)
  generalize Lib.itoa x = W at c20 hWl ⊢
  have C20 := Lib.hid c20
  have HB := Lib.hid hbase
  have hk1 := Lib.hid hk
  have hown1 := Lib.hid hown
  have HG := Lib.hid hG
  clear c20 hG hk hown
  go_enter Tryz.func61, Tryz.ntmps61
  go_wp2_with fail
  refine (C20.out _ HG.out).mono ?_
  rintro e w1 ⟨rfl, hb⟩
  have hk2 : Blk w1 K 45 #[v, .bool false, .bool bad] := hk1.out.below hb hk1.out.lt
  have hsz := hb.size
  have hown2 : w1.ownsRow base 9 1 v ws.length (ws.map str) := hown1.out.kept (row := none) ⟨hb.os, hb.tape, hb.output, hb.size, fun k hk _ => hb.block k hk⟩ (by cases v.ownBlock <;> simp)
  have a0 : w1.cell? ⟨K, 0, none⟩ = some v := hk2.cell 0
  have a1 : w1.cell? ⟨K, 1, none⟩ = some (.bool false) := hk2.cell 1
  have hK1 : KW base K w w1 := Keep.of_below hb (fun k hk hk2 => hk2)
  have HK1 := Lib.hid hK1
  have HK2 := Lib.hid hk2
  have HB1 := Lib.hid hb
  clear hk2 hK1 hb
  go_wp2_with (at_builtin; refine wpList_append_own _ rfl _ _ 29 rfl base 9 i0 (.string ⟨#[]⟩) 1 16 Tryz.underlying29 hi hz0 hz1 hz2 rfl (by decide) _ _ _ rfl (hown2.alloc _) ⟨w1.heap.size, 0, none⟩ 1 1 [str W] rfl rfl ?c1 ?c2 ?c3 ?c4 ?c5 ?_)
  case c1 =>
    intro j u hj
    match j, hj with
    | 0, hj => simp at hj; subst hj; simp [Addr.add]
  case c2 => intro u hu; simp at hu; subst hu; rfl
  case c3 => unfold maxLen; omega
  case c4 => omega
  case c5 => simp; omega
  intro v' w2 hown' hgrow _
  have hne := own_blk_ne (hown2.alloc (.cells #[str W] 9)) (HK2.out.alloc _) (by decide)
  have hb2 : Blk w2 K 45 #[v, .bool false, .bool bad] := (HK2.out.alloc _).grown hgrow (fun e => hne e.symm)
  have hrow : ∀ k, v.ownBlock = some k → base ≤ k := fun k hk => (hown2.lt k hk).1
  have hK3 : KW base K w w2 := (HK1.out.alloc _).grown hgrow (fun k hk h2 => by have := hrow k hk; omega)
  obtain ⟨g, cap, rfl⟩ : ∃ g cap, v' = .slice (some ⟨g, 0, none⟩) (ws.length + 1) cap := by
    rcases hown'.2 with ⟨_, h0⟩ | ⟨g, cap, cur, hv, _⟩
    · omega
    · exact ⟨g, cap, hv⟩
  have f0 : w2.frozen? ⟨K, 0, none⟩ = false := hb2.frozen 0
  have d0 : w2.cell? ⟨K, 0, none⟩ = some v := hb2.cell 0
  have hb3 := hb2.set_ 0 (.slice (some ⟨g, 0, none⟩) (ws.length + 1) cap)
  have d2 : (w2.setCell ⟨K, 0, none⟩ (.slice (some ⟨g, 0, none⟩) (ws.length + 1) cap)).cell? ⟨K, 2, none⟩ = some (.bool bad) := hb3.cell 2
  have f2 : (w2.setCell ⟨K, 0, none⟩ (.slice (some ⟨g, 0, none⟩) (ws.length + 1) cap)).frozen? ⟨K, 2, none⟩ = false := hb3.frozen 2
  have HB3 := Lib.hid hb3
  have HOWN := Lib.hid hown'
  have HK3 := Lib.hid hK3
  have HNE := Lib.hid (own_blk_ne hown' hb2 (by decide))
  have HOK : Hid (Lib.OthersKept 9 (some K) w w2) := Lib.hid (((others_below HB1.out).alloc _).grown hgrow (own_kind (hown2.alloc _)))
  clear hb2 hb3 hown' hgrow hK3 hrow hne hown2 a0 a1
  have HLB := Lib.hid (longB_int W)
  cases bad
  · go_wp2
    go_end0
    refine ⟨rfl, ?_⟩
    rw [Bool.false_or, HLB.out]
    exact w_done hK HB.out HB3.out HOWN.out HNE.out HK3.out HOK.out _
  · go_wp2
    go_end0
    exact ⟨rfl, w_done hK HB.out HB3.out HOWN.out HNE.out HK3.out HOK.out true⟩


set_option maxHeartbeats 2000000 in
set_option maxRecDepth 100000 in
theorem one_bool_w (base K D off : Nat) (ws : List Bs) (bad : Bool) (x : Bool) (w : World) (h : WrC base K ws bad w) (hx : w.cell? ⟨D, off, none⟩ = some (.bool x))
    (hG : Glob w) (hws : ws.length ≤ 1000) :
    Calls Tryz.prog 56 #[.pointer (some ⟨K, 0, none⟩), .pointer (some ⟨D, off, none⟩), .func (.func 57) #[] #[], .func (.func 58) #[] #[]] w (WPost base K ws bad (defW x) w) := by
  obtain ⟨i0, hi, hz0, hz1, hz2⟩ := info_parts info9
  obtain ⟨hK, hbase, v, hk, hown⟩ := h
  have c20 : ∀ w1, Glob w1 → Calls Tryz.prog 57 #[.bool x] w1 (fun e w' => e = .returned (str (defW x)) ∧ Below w1.heap.size w1 w') := by
    intro w1 hG1
    exact (below_same (defW_any x w1))
  have hWl : (defW x).length ≤ 4000000000 := (by cases x <;> decide)
  generalize defW x = W at c20 hWl ⊢
  have C20 := Lib.hid c20
  have HB := Lib.hid hbase
  have hk1 := Lib.hid hk
  have hown1 := Lib.hid hown
  have HG := Lib.hid hG
  clear c20 hG hk hown
  go_enter Tryz.func56, Tryz.ntmps56
  go_wp2_with fail
  refine (C20.out _ HG.out).mono ?_
  rintro e w1 ⟨rfl, hb⟩
  have hk2 : Blk w1 K 45 #[v, .bool false, .bool bad] := hk1.out.below hb hk1.out.lt
  have hsz := hb.size
  have hown2 : w1.ownsRow base 9 1 v ws.length (ws.map str) := hown1.out.kept (row := none) ⟨hb.os, hb.tape, hb.output, hb.size, fun k hk _ => hb.block k hk⟩ (by cases v.ownBlock <;> simp)
  have a0 : w1.cell? ⟨K, 0, none⟩ = some v := hk2.cell 0
  have a1 : w1.cell? ⟨K, 1, none⟩ = some (.bool false) := hk2.cell 1
  have hK1 : KW base K w w1 := Keep.of_below hb (fun k hk hk2 => hk2)
  have HK1 := Lib.hid hK1
  have HK2 := Lib.hid hk2
  have HB1 := Lib.hid hb
  clear hk2 hK1 hb
  go_wp2_with (at_builtin; refine wpList_append_own _ rfl _ _ 29 rfl base 9 i0 (.string ⟨#[]⟩) 1 16 Tryz.underlying29 hi hz0 hz1 hz2 rfl (by decide) _ _ _ rfl (hown2.alloc _) ⟨w1.heap.size, 0, none⟩ 1 1 [str W] rfl rfl ?c1 ?c2 ?c3 ?c4 ?c5 ?_)
  case c1 =>
    intro j u hj
    match j, hj with
    | 0, hj => simp at hj; subst hj; simp [Addr.add]
  case c2 => intro u hu; simp at hu; subst hu; rfl
  case c3 => unfold maxLen; omega
  case c4 => omega
  case c5 => simp; omega
  intro v' w2 hown' hgrow _
  have hne := own_blk_ne (hown2.alloc (.cells #[str W] 9)) (HK2.out.alloc _) (by decide)
  have hb2 : Blk w2 K 45 #[v, .bool false, .bool bad] := (HK2.out.alloc _).grown hgrow (fun e => hne e.symm)
  have hrow : ∀ k, v.ownBlock = some k → base ≤ k := fun k hk => (hown2.lt k hk).1
  have hK3 : KW base K w w2 := (HK1.out.alloc _).grown hgrow (fun k hk h2 => by have := hrow k hk; omega)
  obtain ⟨g, cap, rfl⟩ : ∃ g cap, v' = .slice (some ⟨g, 0, none⟩) (ws.length + 1) cap := by
    rcases hown'.2 with ⟨_, h0⟩ | ⟨g, cap, cur, hv, _⟩
    · omega
    · exact ⟨g, cap, hv⟩
  have f0 : w2.frozen? ⟨K, 0, none⟩ = false := hb2.frozen 0
  have d0 : w2.cell? ⟨K, 0, none⟩ = some v := hb2.cell 0
  have hb3 := hb2.set_ 0 (.slice (some ⟨g, 0, none⟩) (ws.length + 1) cap)
  have d2 : (w2.setCell ⟨K, 0, none⟩ (.slice (some ⟨g, 0, none⟩) (ws.length + 1) cap)).cell? ⟨K, 2, none⟩ = some (.bool bad) := hb3.cell 2
  have f2 : (w2.setCell ⟨K, 0, none⟩ (.slice (some ⟨g, 0, none⟩) (ws.length + 1) cap)).frozen? ⟨K, 2, none⟩ = false := hb3.frozen 2
  have HB3 := Lib.hid hb3
  have HOWN := Lib.hid hown'
  have HK3 := Lib.hid hK3
  have HNE := Lib.hid (own_blk_ne hown' hb2 (by decide))
  have HOK : Hid (Lib.OthersKept 9 (some K) w w2) := Lib.hid (((others_below HB1.out).alloc _).grown hgrow (own_kind (hown2.alloc _)))
  clear hb2 hb3 hown' hgrow hK3 hrow hne hown2 a0 a1
  have HLB := Lib.hid (longB_int W)
  cases bad
  · go_wp2
    go_end0
    refine ⟨rfl, ?_⟩
    rw [Bool.false_or, HLB.out]
    exact w_done hK HB.out HB3.out HOWN.out HNE.out HK3.out HOK.out _
  · go_wp2
    go_end0
    exact ⟨rfl, w_done hK HB.out HB3.out HOWN.out HNE.out HK3.out HOK.out true⟩


set_option maxHeartbeats 2000000 in
set_option maxRecDepth 100000 in
theorem one_do_w {V N : Nat} (base K D off : Nat) (ws : List Bs) (bad : Bool) (x : Nat) (w : World) (h : WrC base K ws bad w) (hx : w.cell? ⟨D, off, none⟩ = some (.int .u8 x))
    (hx8 : x < 256) (hG : Glob w) (hN : Names V N w) (hws : ws.length ≤ 1000) :
    Calls Tryz.prog 28 #[.pointer (some ⟨K, 0, none⟩), .pointer (some ⟨D, off, none⟩), .func (.func 29) #[] #[.pointer (some ⟨V, 0, none⟩)], .func (.func 30) #[] #[.pointer (some ⟨V, 0, none⟩)]] w (WPost base K ws bad (doW x) w) := by
  obtain ⟨i0, hi, hz0, hz1, hz2⟩ := info_parts info9
  obtain ⟨hK, hbase, v, hk, hown⟩ := h
  have c20 : ∀ w1, Glob w1 → Names V N w1 → Calls Tryz.prog 29 #[.int .u8 x, .pointer (some ⟨V, 0, none⟩)] w1 (fun e w' => e = .returned (str (doW x)) ∧ Below w1.heap.size w1 w') := by
    intro w1 hG1 hN1
    exact (below_same (doW_any V N x w1 hx8 hN1))
  have hWl : (doW x).length ≤ 4000000000 := (doW_short x)
  generalize doW x = W at c20 hWl ⊢
  have C20 := Lib.hid c20
  have HB := Lib.hid hbase
  have hk1 := Lib.hid hk
  have hown1 := Lib.hid hown
  have HG := Lib.hid hG
  have HN := Lib.hid hN
  clear c20 hG hk hown hN
  go_enter Tryz.func28, Tryz.ntmps28
  go_wp2_with fail
  refine (C20.out _ HG.out HN.out).mono ?_
  rintro e w1 ⟨rfl, hb⟩
  have hk2 : Blk w1 K 45 #[v, .bool false, .bool bad] := hk1.out.below hb hk1.out.lt
  have hsz := hb.size
  have hown2 : w1.ownsRow base 9 1 v ws.length (ws.map str) := hown1.out.kept (row := none) ⟨hb.os, hb.tape, hb.output, hb.size, fun k hk _ => hb.block k hk⟩ (by cases v.ownBlock <;> simp)
  have a0 : w1.cell? ⟨K, 0, none⟩ = some v := hk2.cell 0
  have a1 : w1.cell? ⟨K, 1, none⟩ = some (.bool false) := hk2.cell 1
  have hK1 : KW base K w w1 := Keep.of_below hb (fun k hk hk2 => hk2)
  have HK1 := Lib.hid hK1
  have HK2 := Lib.hid hk2
  have HB1 := Lib.hid hb
  clear hk2 hK1 hb
  go_wp2_with (at_builtin; refine wpList_append_own _ rfl _ _ 29 rfl base 9 i0 (.string ⟨#[]⟩) 1 16 Tryz.underlying29 hi hz0 hz1 hz2 rfl (by decide) _ _ _ rfl (hown2.alloc _) ⟨w1.heap.size, 0, none⟩ 1 1 [str W] rfl rfl ?c1 ?c2 ?c3 ?c4 ?c5 ?_)
  case c1 =>
    intro j u hj
    match j, hj with
    | 0, hj => simp at hj; subst hj; simp [Addr.add]
  case c2 => intro u hu; simp at hu; subst hu; rfl
  case c3 => unfold maxLen; omega
  case c4 => omega
  case c5 => simp; omega
  intro v' w2 hown' hgrow _
  have hne := own_blk_ne (hown2.alloc (.cells #[str W] 9)) (HK2.out.alloc _) (by decide)
  have hb2 : Blk w2 K 45 #[v, .bool false, .bool bad] := (HK2.out.alloc _).grown hgrow (fun e => hne e.symm)
  have hrow : ∀ k, v.ownBlock = some k → base ≤ k := fun k hk => (hown2.lt k hk).1
  have hK3 : KW base K w w2 := (HK1.out.alloc _).grown hgrow (fun k hk h2 => by have := hrow k hk; omega)
  obtain ⟨g, cap, rfl⟩ : ∃ g cap, v' = .slice (some ⟨g, 0, none⟩) (ws.length + 1) cap := by
    rcases hown'.2 with ⟨_, h0⟩ | ⟨g, cap, cur, hv, _⟩
    · omega
    · exact ⟨g, cap, hv⟩
  have f0 : w2.frozen? ⟨K, 0, none⟩ = false := hb2.frozen 0
  have d0 : w2.cell? ⟨K, 0, none⟩ = some v := hb2.cell 0
  have hb3 := hb2.set_ 0 (.slice (some ⟨g, 0, none⟩) (ws.length + 1) cap)
  have d2 : (w2.setCell ⟨K, 0, none⟩ (.slice (some ⟨g, 0, none⟩) (ws.length + 1) cap)).cell? ⟨K, 2, none⟩ = some (.bool bad) := hb3.cell 2
  have f2 : (w2.setCell ⟨K, 0, none⟩ (.slice (some ⟨g, 0, none⟩) (ws.length + 1) cap)).frozen? ⟨K, 2, none⟩ = false := hb3.frozen 2
  have HB3 := Lib.hid hb3
  have HOWN := Lib.hid hown'
  have HK3 := Lib.hid hK3
  have HNE := Lib.hid (own_blk_ne hown' hb2 (by decide))
  have HOK : Hid (Lib.OthersKept 9 (some K) w w2) := Lib.hid (((others_below HB1.out).alloc _).grown hgrow (own_kind (hown2.alloc _)))
  clear hb2 hb3 hown' hgrow hK3 hrow hne hown2 a0 a1
  have HLB := Lib.hid (longB_int W)
  cases bad
  · go_wp2
    go_end0
    refine ⟨rfl, ?_⟩
    rw [Bool.false_or, HLB.out]
    exact w_done hK HB.out HB3.out HOWN.out HNE.out HK3.out HOK.out _
  · go_wp2
    go_end0
    exact ⟨rfl, w_done hK HB.out HB3.out HOWN.out HNE.out HK3.out HOK.out true⟩

end Go.Proofs.YtadncponjpdcmaaGreatDoor

/-
  A strings.Builder of the call's own, with a frame that keeps every older block but its own: copyCheck, WriteString, WriteByte, WriteRune, String, Grow, Cap, Len.
-/
import Derived.Test.YtadncponjpdcmaaGreatDoorShelf
import Derived.Test.YtadncponjpdcmaaGreatDoorWords
import Derived.WalkKit
import Derived.WalkSpells
import Derived.WalkLawsBesides
import Derived.Deep.QuietTactic
import Derived.BigQuiet
import Derived.StillTailTactics
import Derived.Lib.Hide
namespace Go.Proofs.YtadncponjpdcmaaGreatDoor
open Go.RowKit

theorem info5 : (Tryz.prog.info? 5).map (fun i => (i.zero, i.size, i.bytes)) = some (some (.int .u8 0), 1, 1) := by kernel_rfl

def BldAt (R b : Nat) (p : Value) (bs : List Value) (w : World) : Prop := ∃ v, Blk w b 80 #[p, v] ∧ w.ownsRowF R 5 1 v bs.length bs
def Bld (R b : Nat) (bs : List Value) (w : World) : Prop := BldAt R b (.pointer none) bs w ∨ BldAt R b (.pointer (some ⟨b, 0, none⟩)) bs w

theorem ownF_ne {w : World} {R b n : Nat} {v p q : Value} {xs : List Value} (hown : w.ownsRowF R 5 1 v n xs) (hb : Blk w b 80 #[p, q]) : v.ownBlock ≠ some b :=
  Lib.ownBlock_neF hown hb (by decide)

theorem Bld.fresh {R b : Nat} {w : World} (h : Blk w b 80 #[.pointer none, .slice none 0 0]) : Bld R b [] w := .inl ⟨_, h, World.ownsRowF_nil w R 5 1⟩

theorem ownF_mono {w : World} {R R' n : Nat} {v : Value} {xs : List Value} (hown : w.ownsRowF R 5 1 v n xs) (h : R' ≤ R) : w.ownsRowF R' 5 1 v n xs := by
  refine ⟨hown.1, ?_⟩
  rcases hown.2 with hn | ⟨g, cap, cur, fz, hv, hb, rest⟩
  · exact .inl hn
  · exact .inr ⟨g, cap, cur, fz, hv, by omega, rest⟩

theorem Bld.isF {R b : Nat} {bs : List Value} {w : World} (h : Bld R b bs w) : Lib.IsBuilderF 80 5 (min R b) b bs w := by
  rcases h with ⟨v, h1, h2⟩ | ⟨v, h1, h2⟩
  · exact .inl ⟨by omega, v, h1, ownF_mono h2 (by omega), ownF_ne h2 h1⟩
  · exact .inr ⟨by omega, v, h1, ownF_mono h2 (by omega), ownF_ne h2 h1⟩

theorem Bld.lt {R b : Nat} {bs : List Value} {w : World} (h : Bld R b bs w) : b < w.heap.size := by
  rcases h with ⟨v, h1, h2⟩ | ⟨v, h1, h2⟩ <;> exact h1.lt

/-- A builder stays one where its blocks are kept. -/
theorem Bld.kept {R b : Nat} {bs : List Value} {w w' : World} {S : Nat → Prop} (h : Bld R b bs w) (k : Keep S w w') (hb : S b) (hS : ∀ i, R ≤ i → S i) : Bld R b bs w' := by
  have key : ∀ p, BldAt R b p bs w → BldAt R b p bs w' := by
    rintro p ⟨v, h1, h2⟩
    refine ⟨v, h1.kept k hb, h2.1, ?_⟩
    rcases h2.2 with hn | ⟨g, cap, cur, fz, hv, hg, hh, rest⟩
    · exact .inl hn
    · exact .inr ⟨g, cap, cur, fz, hv, hg, (k.block g (Array.getElem?_eq_some_iff.1 hh).1 (hS g hg)).trans hh, rest⟩
  exact h.imp (key _) (key _)

/-- What a call keeps beside a builder of R, b. -/
abbrev KB (R b : Nat) : World → World → Prop := Keep (fun k => k < R ∧ k ≠ b)

theorem bld_copy (R b : Nat) (bs : List Value) (w : World) (h : Bld R b bs w) :
    Calls Tryz.prog 63 #[.pointer (some ⟨b, 0, none⟩)] w fun e w' => e = .returned (.tuple #[]) ∧ (BldAt R b (.pointer (some ⟨b, 0, none⟩)) bs w' ∧ KB R b w w') := by
  rcases h with ⟨v, h1, h2⟩ | ⟨v, h1, h2⟩
  · refine (Any.Builder_copyCheck_fresh Tryz.bldB240 Tryz.bldBX.toX72 b w (h1.cell 0) (by unfold Blk at h1; simp [World.shape?, h1]; rfl) (h1.frozen 0)).mono ?_
    rintro e w' ⟨rfl, rfl⟩
    have hne := ownF_ne h2 h1
    refine ⟨rfl, ⟨v, h1.set_ 0 _, ?_⟩, (Keep.refl _ w).setCell (p := ⟨b, 0, none⟩) (by simp) _⟩
    exact h2.kept (row := some b) ⟨rfl, rfl, rfl, by simp [World.setCell], fun k _ hk => Below.heap_setCell _ _ _ _ (fun e => hk (by simp [e]))⟩ (Or.inr hne)
  · refine (Any.Builder_copyCheck_used Tryz.bldB240 Tryz.bldBX.toX72 b w (h1.cell 0)).mono ?_
    rintro e w' ⟨rfl, rfl⟩
    exact ⟨rfl, ⟨v, h1, h2⟩, Keep.refl _ _⟩

set_option maxHeartbeats 1000000 in
set_option maxRecDepth 100000 in
theorem bld_WriteString (R b : Nat) (bs : List Value) (s : ByteArray) (w : World) (h : Bld R b bs w) (hlen : bs.length + s.size ≤ 140737488355328) (hR : R ≤ w.heap.size) :
    Calls Tryz.prog 36 #[.pointer (some ⟨b, 0, none⟩), .string s] w fun e w' => e = .returned (.tuple #[.int .i64 s.size, .nilIface]) ∧ (Bld R b (bs ++ Lib.strCells s) w' ∧ KB R b w w') := by
  obtain ⟨i0, hi, hz0, hz1, hz2⟩ := info_parts info5
  go_enter Tryz.func36, Tryz.ntmps36
  go_wp2_with (go_at_call 63; refine (bld_copy R b bs _ h).mono ?_)
  rintro e w1 ⟨rfl, ⟨v, hbk, hown⟩, hk1⟩
  have hsz := hk1.size
  have hne := ownF_ne hown hbk
  have c0 : w1.cell? ⟨b, 0, none⟩ = some (.pointer (some ⟨b, 0, none⟩)) := hbk.cell 0
  have c1 : w1.cell? ⟨b, 1, none⟩ = some v := hbk.cell 1
  clear h
  go_wp2_with (at_builtin; refine Lib.wpList_append_own_stringF _ rfl _ _ 23 9 rfl R 5 i0 Tryz.underlying23 Tryz.underlying9 hi hz0 hz1 hz2 _ _ _ rfl hown s rfl ?c3 ?c4 ?c5 ?_)
  case c3 => unfold maxLen; omega
  case c4 => omega
  case c5 => omega
  intro v' w2 hown' hgrow _
  have hb2 : Blk w2 b 80 #[.pointer (some ⟨b, 0, none⟩), v] := hbk.grown hgrow (fun e => hne e.symm)
  have d0 : w2.cell? ⟨b, 0, none⟩ = some (.pointer (some ⟨b, 0, none⟩)) := hb2.cell 0
  have d1 : w2.cell? ⟨b, 1, none⟩ = some v := hb2.cell 1
  have f1 : w2.frozen? ⟨b, 1, none⟩ = false := hb2.frozen 1
  obtain ⟨ao, n', cap, rfl⟩ : ∃ ao n' cap, v' = .slice ao n' cap := by
    rcases hown'.2 with ⟨hv, _⟩ | ⟨g, cap, cur, fz, hv, _⟩
    · exact ⟨_, _, _, hv⟩
    · exact ⟨_, _, _, hv⟩
  go_wp2
  go_ret2
  have hne2 := ownF_ne hown' hb2
  refine ⟨rfl, .inr ⟨_, hb2.set_ 1 _, ?_⟩, (hk1.grown hgrow ?_).setCell (p := ⟨b, 1, none⟩) (by simp) _⟩
  · have hl : (bs ++ Lib.strCells s).length = bs.length + s.size := by simp [Lib.strCells_length]
    rw [hl]
    exact hown'.kept (row := some b) ⟨rfl, rfl, rfl, by simp [World.setCell], fun k _ hk => Below.heap_setCell _ _ _ _ (fun e => hk (by simp [e]))⟩ (Or.inr hne2)
  · intro k hk hk2
    have := (hown.lt k hk).1
    omega

set_option maxHeartbeats 1000000 in
set_option maxRecDepth 100000 in
theorem bld_WriteByte (R b : Nat) (bs : List Value) (c : Int) (w : World) (h : Bld R b bs w) (hlen : bs.length + 1 ≤ 140737488355328) (hR : R ≤ w.heap.size) :
    Calls Tryz.prog 45 #[.pointer (some ⟨b, 0, none⟩), .int .u8 c] w fun e w' => e = .returned .nilIface ∧ (Bld R b (bs ++ [.int .u8 c]) w' ∧ KB R b w w') := by
  obtain ⟨i0, hi, hz0, hz1, hz2⟩ := info_parts info5
  go_enter Tryz.func45, Tryz.ntmps45
  go_wp2_with (go_at_call 63; refine (bld_copy R b bs _ h).mono ?_)
  rintro e w1 ⟨rfl, ⟨v, hbk, hown⟩, hk1⟩
  have hsz := hk1.size
  have hne := ownF_ne hown hbk
  have c0 : w1.cell? ⟨b, 0, none⟩ = some (.pointer (some ⟨b, 0, none⟩)) := hbk.cell 0
  have c1 : w1.cell? ⟨b, 1, none⟩ = some v := hbk.cell 1
  clear h
  go_wp2_with (at_builtin; (refine wpList_append_ownF _ rfl _ _ 23 rfl R 5 i0 (.int .u8 0) 1 1 Tryz.underlying23 hi hz0 hz1 hz2 rfl (by decide) _ _ _ rfl (hown.alloc _) ⟨w1.heap.size, 0, none⟩ 1 1 [.int .u8 c] rfl rfl ?c1 ?c2 ?c3 ?c4 ?c5 ?_))
  case c1 =>
    intro j u hj
    match j, hj with
    | 0, hj => simp at hj; subst hj; simp [Addr.add]
  case c2 => intro u hu; simp at hu; subst hu; rfl
  case c3 => unfold maxLen; omega
  case c4 => omega
  case c5 => simp; omega
  intro v' w2 hown' hgrow _
  have hb2 : Blk w2 b 80 #[.pointer (some ⟨b, 0, none⟩), v] := (hbk.alloc _).grown hgrow (fun e => hne e.symm)
  have d0 : w2.cell? ⟨b, 0, none⟩ = some (.pointer (some ⟨b, 0, none⟩)) := hb2.cell 0
  have d1 : w2.cell? ⟨b, 1, none⟩ = some v := hb2.cell 1
  have f1 : w2.frozen? ⟨b, 1, none⟩ = false := hb2.frozen 1
  obtain ⟨g, cap, rfl⟩ : ∃ g cap, v' = .slice (some ⟨g, 0, none⟩) (bs.length + 1) cap := by
    rcases hown'.2 with ⟨_, h0⟩ | ⟨g, cap, cur, fz, hv, _⟩
    · omega
    · exact ⟨g, cap, hv⟩
  go_wp2
  go_ret
  have hne2 := ownF_ne hown' hb2
  refine ⟨rfl, .inr ⟨_, hb2.set_ 1 _, ?_⟩, ((hk1.alloc _).grown hgrow ?_).setCell (p := ⟨b, 1, none⟩) (by simp) _⟩
  · have hl : (bs ++ [Value.int .u8 c]).length = bs.length + 1 := by simp
    rw [hl]
    exact hown'.kept (row := some b) ⟨rfl, rfl, rfl, by simp [World.setCell], fun k _ hk => Below.heap_setCell _ _ _ _ (fun e => hk (by simp [e]))⟩ (Or.inr hne2)
  · intro k hk hk2
    have := (hown.lt k hk).1
    omega

set_option maxHeartbeats 2000000 in
set_option maxRecDepth 100000 in
theorem bld_WriteRune (R b : Nat) (bs : List Value) (r : Int) (hr0 : -2147483648 ≤ r) (hr1 : r ≤ 2147483647) (w : World) (h : Bld R b bs w) (hlen : bs.length + 4 ≤ 140737488355328) (hR : R ≤ w.heap.size) :
    Calls Tryz.prog 48 #[.pointer (some ⟨b, 0, none⟩), .int .i32 r] w fun e w' => e = .returned (.tuple #[.int .i64 (Lib.runeCells r).length, .nilIface]) ∧ (Bld R b (bs ++ Lib.runeCells r) w' ∧ KB R b w w') := by
  have hk4 := Lib.runeCells_le r
  go_enter Tryz.func48, Tryz.ntmps48
  go_wp2_with (go_at_call 63; refine (bld_copy R b bs _ h).mono ?_)
  rintro e w1 ⟨rfl, ⟨v, hbk, hown⟩, hk1⟩
  have hsz := hk1.size
  have hne := ownF_ne hown hbk
  clear h
  obtain ⟨ao, cap, rfl⟩ : ∃ ao cap, v = .slice ao bs.length cap := by
    rcases hown.2 with ⟨hv, h0⟩ | ⟨g, cap, cur, fz, hv, _⟩
    · exact ⟨none, 0, by rw [hv, h0]⟩
    · exact ⟨_, _, hv⟩
  have c0 : w1.cell? ⟨b, 0, none⟩ = some (.pointer (some ⟨b, 0, none⟩)) := hbk.cell 0
  have c1 : w1.cell? ⟨b, 1, none⟩ = some (.slice ao bs.length cap) := hbk.cell 1
  go_wp2_with (go_at_call 72; refine (Any.utf8_AppendRune_own { Tryz.bldB168 with } Tryz.bldBX R _ bs.length bs r hr0 hr1 _ hown hlen (by omega)).mono ?_)
  rintro e w2 ⟨v', rfl, hown', o, hgrow⟩
  have hb2 : Blk w2 b 80 #[.pointer (some ⟨b, 0, none⟩), .slice ao bs.length cap] := (hbk.alloc o).grown hgrow (fun e => hne e.symm)
  have d0 : w2.cell? ⟨b, 0, none⟩ = some (.pointer (some ⟨b, 0, none⟩)) := hb2.cell 0
  have d1 : w2.cell? ⟨b, 1, none⟩ = some (.slice ao bs.length cap) := hb2.cell 1
  have f1 : w2.frozen? ⟨b, 1, none⟩ = false := hb2.frozen 1
  obtain ⟨ao', cap', rfl⟩ : ∃ ao' cap', v' = .slice ao' (bs.length + (Lib.runeCells r).length) cap' := by
    rcases hown'.2 with ⟨hv, h0⟩ | ⟨g, cap, cur, fz, hv, _⟩
    · exact ⟨none, 0, by rw [hv, h0]⟩
    · exact ⟨_, _, hv⟩
  have e1 : (w2.setCell ⟨b, 1, none⟩ (.slice ao' (bs.length + (Lib.runeCells r).length) cap')).cell? ⟨b, 1, none⟩ = some (.slice ao' (bs.length + (Lib.runeCells r).length) cap') := (hb2.set_ 1 _).cell 1
  go_wp2
  go_ret2
  have hne2 := ownF_ne hown' hb2
  refine ⟨?_, .inr ⟨_, hb2.set_ 1 _, ?_⟩, ((hk1.alloc o).grown hgrow ?_).setCell (p := ⟨b, 1, none⟩) (by simp) _⟩
  · simp; omega
  · have hl : (bs ++ Lib.runeCells r).length = bs.length + (Lib.runeCells r).length := by simp
    rw [hl]
    exact hown'.kept (row := some b) ⟨rfl, rfl, rfl, by simp [World.setCell], fun k _ hk => Below.heap_setCell _ _ _ _ (fun e => hk (by simp [e]))⟩ (Or.inr hne2)
  · intro k hk hk2
    have := (hown.lt k hk).1
    omega

theorem bld_String (R b : Nat) (l : List UInt8) (w : World) (h : Bld R b (Lib.byteCells l) w) (hR : R ≤ w.heap.size) :
    Calls Tryz.prog 37 #[.pointer (some ⟨b, 0, none⟩)] w fun e w' => e = .returned (str l) ∧ Below (min R b) w w' := by
  refine (Tryz.Builder_String_any_k (min R b) b l w h.isF (by omega)).mono ?_
  rintro e w' ⟨rfl, _, hb, _⟩
  exact ⟨rfl, hb⟩

end Go.Proofs.YtadncponjpdcmaaGreatDoor

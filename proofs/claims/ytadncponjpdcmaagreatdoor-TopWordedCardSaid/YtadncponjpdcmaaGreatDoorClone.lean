/-
  slices.Clone of verses: walked.
-/
import Derived.Test.YtadncponjpdcmaaGreatDoorSame
namespace Go.Proofs.YtadncponjpdcmaaGreatDoor
open Go.RowKit

/-- A verse: its kind, whether it is a definition, its name, its text, its numbers. -/
structure VerseL where
  k : Nat
  d : Bool
  nm : Bs
  tx : Bs
  c0 : Int
  c1 : Int
  c2 : Int
  c3 : Int

def verseCells (v : VerseL) : Array Value := #[.int .u8 v.k, .bool v.d, str v.nm, str v.tx, .int .i16 v.c0, .int .i16 v.c1, .int .i16 v.c2, .int .i16 v.c3]
def versesCells (vs : List VerseL) : List Value := vs.flatMap fun v => (verseCells v).toList

theorem versesCells_length : ∀ vs : List VerseL, (versesCells vs).length = vs.length * 8
  | [] => rfl
  | v :: vs => by
    have ih := versesCells_length vs
    unfold versesCells at ih ⊢
    rw [List.flatMap_cons, List.length_append, ih]
    simp [verseCells]; omega

theorem versesCells_at : ∀ (vs : List VerseL) (k t : Nat) (hk : k < vs.length) (ht : t < 8), (versesCells vs)[k * 8 + t]? = (verseCells vs[k])[t]?
  | o :: os, 0, t, hk, ht => by
    have e : versesCells (o :: os) = (verseCells o).toList ++ versesCells os := by simp [versesCells]
    rw [e, List.getElem?_append_left (by simp [verseCells]; omega)]
    simp
  | o :: os, k + 1, t, hk, ht => by
    have e : versesCells (o :: os) = (verseCells o).toList ++ versesCells os := by simp [versesCells]
    have hl : (verseCells o).toList.length = 8 := rfl
    rw [e, List.getElem?_append_right (by rw [hl]; omega), hl, show (k + 1) * 8 + t - 8 = k * 8 + t by omega]
    simpa using versesCells_at os k t (by simpa using hk) ht

theorem versesCells_one (vs : List VerseL) : ∀ u ∈ versesCells vs, u.oneCell' = true := by
  intro u hu
  obtain ⟨v, _, hv⟩ := List.mem_flatMap.1 hu
  simp only [verseCells, List.mem_cons, List.not_mem_nil, or_false] at hv
  rcases hv with rfl | rfl | rfl | rfl | rfl | rfl | rfl | rfl <;> rfl

theorem info28 : (Tryz.prog.info? 28).map (fun i => (i.zero.map (·.cells.size), i.size, i.bytes)) = some (some 8, 8, 48) := by kernel_rfl
theorem info33 : (Tryz.prog.info? 33).map (fun i => (i.zero.map (·.cells.size), i.size, i.bytes)) = some (some 8, 8, 72) := by kernel_rfl

theorem info_of {t : TypeId} {s n b : Nat} (this : (Tryz.prog.info? t).map (fun i => (i.zero.map (·.cells.size), i.size, i.bytes)) = some (some s, n, b)) :
    ∃ i z, Tryz.prog.info? t = some i ∧ i.zero = some z ∧ z.cells.size = s ∧ i.size = n ∧ i.bytes = b := by
  cases hh : Tryz.prog.info? t with
  | none => rw [hh] at this; simp at this
  | some i =>
    rw [hh] at this
    simp at this
    obtain ⟨⟨z, hz, hs⟩, hn, hb⟩ := this
    exact ⟨i, z, rfl, hz, hs, hn, hb⟩

theorem own_empty (w : World) (e : TypeId) (size : Nat) : (w.alloc (.cells #[] e)).ownsRow w.heap.size e size (.slice (some ⟨w.heap.size, 0, none⟩) 0 0) 0 [] :=
  ⟨by simp, .inr ⟨w.heap.size, 0, #[], rfl, Nat.le_refl _, Blk.new w e #[], Nat.le_refl _, by unfold maxLen; omega, by simp, by simp⟩⟩

set_option maxHeartbeats 2000000 in
set_option maxRecDepth 100000 in
theorem CloneV_some (B n c : Nat) (ad : Addr) (vs : List VerseL) (w : World) (h : Reads w B 8 (some ad) n (versesCells vs)) (hn : n ≤ 12) (hB : B ≤ w.heap.size) :
    Calls Tryz.prog 4 #[.slice (some ad) n c] w fun e w' => ∃ v', e = .returned v' ∧ w'.ownsRow w.heap.size 28 8 v' n (versesCells vs) ∧ Below w.heap.size w w' := by
  obtain ⟨i0, z, hi, hz0, hzs, hz1, hz2⟩ := info_of info28
  have q22 : ∀ (w : World) (a : Option Addr) (n c n' c' : Nat), (binOp .eql 22 (.slice a n c) (.slice none n' c')).run Tryz.prog w = .ok (.bool a.isNone) w := fun w a n c n' c' => Lib.run_eql_slice_nil w _ _ a n c n' c' Tryz.underlying22
  have hown := own_empty w 28 8
  have H := Lib.hid h
  have HI := Lib.hid hi
  have HZ0 := Lib.hid hz0
  have HZ1 := Lib.hid hz1
  have HZS := Lib.hid hzs
  have HZ2 := Lib.hid hz2
  have HOWN := Lib.hid hown
  clear h hi hz0 hz1 hz2 hzs hown
  go_enter Tryz.func4, Tryz.ntmps4
  go_wp2_with (at_builtin; refine wpList_append_own _ rfl _ _ 22 rfl w.heap.size 28 i0 z 8 48 Tryz.underlying22 HI.out HZ0.out HZ1.out HZ2.out HZS.out (by decide) _ _ _ rfl HOWN.out ad n c (versesCells vs) rfl H.out.1 ?c1 ?c2 ?c3 ?c4 ?c5 ?_)
  case c1 =>
    intro j u hj
    obtain ⟨ad', he, hb, hc⟩ := H.out.2 (by
      have := (List.getElem?_eq_some_iff.1 hj).1
      have := H.out.1
      omega)
    injection he with he
    subst he
    exact Lib.cell?_alloc_some _ (hc j u hj)
  case c2 => exact versesCells_one vs
  case c3 => unfold maxLen; omega
  case c4 => omega
  case c5 => simp
  intro v' w1 hown' hgrow hnil
  have hres : (∃ v'', Ending.returned v' = .returned v'' ∧ w1.ownsRow w.heap.size 28 8 v'' n (versesCells vs) ∧ Below w.heap.size w w1) := by
    refine ⟨v', rfl, by simpa using hown', ((Below.refl _ w).alloc (Nat.le_refl _) _).grown hgrow (by simp) (by intro k hk; simp [Value.ownBlock] at hk; omega)⟩
  clear hown' hgrow hnil
  go_wp2
  go_ret
  exact hres

set_option maxHeartbeats 2000000 in
set_option maxRecDepth 100000 in
theorem CloneV_none (n c : Nat) (w : World) :
    Calls Tryz.prog 4 #[.slice none n c] w fun e w' => e = .returned (.slice none 0 0) ∧ w = w' := by
  have q22 : ∀ (w : World) (a : Option Addr) (n c n' c' : Nat), (binOp .eql 22 (.slice a n c) (.slice none n' c')).run Tryz.prog w = .ok (.bool a.isNone) w := fun w a n c n' c' => Lib.run_eql_slice_nil w _ _ a n c n' c' Tryz.underlying22
  go_enter Tryz.func4, Tryz.ntmps4
  go_wp2
  go_ret
  exact ⟨rfl, rfl⟩

/-- The verses that were copied: a row of the copy's own. -/
theorem CloneV_any (B n c : Nat) (A : Option Addr) (vs : List VerseL) (w : World) (h : Reads w B 8 A n (versesCells vs)) (hA : A = none → n = 0) (hn : n ≤ 12) (hB : B ≤ w.heap.size) :
    Calls Tryz.prog 4 #[.slice A n c] w fun e w' => ∃ v', e = .returned v' ∧ w'.ownsRow w.heap.size 28 8 v' n (versesCells vs) ∧ Below w.heap.size w w' := by
  cases A with
  | some ad => exact CloneV_some B n c ad vs w h hn hB
  | none =>
    obtain rfl := hA rfl
    refine (CloneV_none 0 c w).mono ?_
    rintro e w' ⟨rfl, rfl⟩
    refine ⟨_, rfl, ⟨h.1, .inl ⟨rfl, rfl⟩⟩, Below.refl _ _⟩

end Go.Proofs.YtadncponjpdcmaaGreatDoor

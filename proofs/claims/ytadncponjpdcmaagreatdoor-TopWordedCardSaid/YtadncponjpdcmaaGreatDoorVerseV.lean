/-
  A verse's op and its line by hand, whatever its kind.
-/
import Derived.Test.YtadncponjpdcmaaGreatDoorVerseI
import Derived.Test.YtadncponjpdcmaaGreatDoorVerseS
import Derived.Test.YtadncponjpdcmaaGreatDoorVerseL
import Derived.Test.YtadncponjpdcmaaGreatDoorVerseM
import Derived.Test.YtadncponjpdcmaaGreatDoorVerseN
import Derived.Test.YtadncponjpdcmaaGreatDoorVerseO
import Derived.Test.YtadncponjpdcmaaGreatDoorVerseP
import Derived.Test.YtadncponjpdcmaaGreatDoorVerseQ
namespace Go.Proofs.YtadncponjpdcmaaGreatDoor
open Go.RowKit

/-- A verse's op. -/
def opV (v : VerseL) : OpL := match v.k % 7 with
  | 0 => ⟨1, v.d, [], v.tx, 0, 0, 0, 0⟩
  | 1 => ⟨2, v.d, v.nm, [], 0, 0, 0, 0⟩
  | 2 => ⟨3, false, v.nm, [], 0, 0, 0, 0⟩
  | 3 => ⟨4, false, [], v.tx, v.c0, v.c1, v.c2, v.c3⟩
  | 4 => ⟨5, false, v.nm, [], 0, 0, 0, 0⟩
  | 5 => ⟨6, false, v.nm, [], 0, 0, 0, 0⟩
  | _ => ⟨7, false, [], v.tx, 0, 0, 0, 0⟩

def int16 (c : Int) : Prop := -32768 ≤ c ∧ c ≤ 32767
structure VerseOk (v : VerseL) : Prop where
  k : v.k < 256
  nm : v.nm.length ≤ 200
  tx : v.tx.length ≤ 200
  c0 : int16 v.c0
  c1 : int16 v.c1
  c2 : int16 v.c2
  c3 : int16 v.c3

def lineL (o : OpL) : Bs := Lib.join (wordsOf o) [32]

theorem headB_word (d : Nat) (W : Bs) (h : Bs) (hh : headB d = ⟨h.toArray⟩) : Value.string (headB d ++ ⟨W.toArray⟩) = str (h ++ W) := by
  rw [hh]
  congr 1

theorem verse_any (v : VerseL) (w : World) (hv : VerseOk v) (hG : Glob w) :
    Calls Tryz.prog 5 #[.agg (verseCells v)] w fun e w' => e = .returned (.tuple #[.agg (opCells (opV v)), str (lineL (opV v))]) ∧ Below w.heap.size w w' := by
  obtain ⟨k, d, nm, tx, c0, c1, c2, c3⟩ := v
  have hnm : nm.length ≤ 1000000 := by have := hv.nm; simp at this; omega
  have htx : tx.length ≤ 1000000 := by have := hv.tx; simp at this; omega
  have hm : ∀ m : Nat, k % 7 = m → (k : Int).tmod 7 = m := fun m h => by rw [Int.tmod_eq_emod_of_nonneg (by omega)]; omega
  have hver : verseCells ⟨k, d, nm, tx, c0, c1, c2, c3⟩ = #[.int .u8 k, .bool d, str nm, str tx, .int .i16 c0, .int .i16 c1, .int .i16 c2, .int .i16 c3] := rfl
  rw [hver]
  obtain h | h | h | h | h | h | h : k % 7 = 0 ∨ k % 7 = 1 ∨ k % 7 = 2 ∨ k % 7 = 3 ∨ k % 7 = 4 ∨ k % 7 = 5 ∨ k % 7 = 6 := by omega
  · have ho : opV ⟨k, d, nm, tx, c0, c1, c2, c3⟩ = ⟨1, d, [], tx, 0, 0, 0, 0⟩ := by unfold opV; simp only [h]
    rw [ho]
    have hl : lineL ⟨1, d, [], tx, 0, 0, 0, 0⟩ = [112, 117, 116, 32] ++ defW d ++ [32] ++ wordL tx := by simp [lineL, wordsOf, Lib.join, doW, nameL]
    rw [hl]
    cases d
    · exact op_put_unit k nm tx c0 c1 c2 c3 w (hm 0 h) htx hG
    · exact op_put_def k nm tx c0 c1 c2 c3 w (hm 0 h) htx hG
  · have ho : opV ⟨k, d, nm, tx, c0, c1, c2, c3⟩ = ⟨2, d, nm, [], 0, 0, 0, 0⟩ := by unfold opV; simp only [h]
    rw [ho]
    have hl : lineL ⟨2, d, nm, [], 0, 0, 0, 0⟩ = [99, 111, 109, 112, 105, 108, 101, 32] ++ defW d ++ [32] ++ wordL nm := by simp [lineL, wordsOf, Lib.join, doW, nameL]
    rw [hl]
    cases d
    · exact op_compile_unit k nm tx c0 c1 c2 c3 w (hm 1 h) hnm hG
    · exact op_compile_def k nm tx c0 c1 c2 c3 w (hm 1 h) hnm hG
  · have ho : opV ⟨k, d, nm, tx, c0, c1, c2, c3⟩ = ⟨3, false, nm, [], 0, 0, 0, 0⟩ := by unfold opV; simp only [h]
    rw [ho]
    have hl : lineL ⟨3, false, nm, [], 0, 0, 0, 0⟩ = [108, 105, 110, 107, 32] ++ wordL nm := by simp [lineL, wordsOf, Lib.join, doW, nameL]
    rw [hl, ← headB_word 3 _ _ rfl]
    cases d
    · exact op_link_unit k nm tx c0 c1 c2 c3 w (hm 2 h) hnm hG
    · exact op_link_def k nm tx c0 c1 c2 c3 w (hm 2 h) hnm hG
  · have ho : opV ⟨k, d, nm, tx, c0, c1, c2, c3⟩ = ⟨4, false, [], tx, c0, c1, c2, c3⟩ := by unfold opV; simp only [h]
    rw [ho]
    have hl : lineL ⟨4, false, [], tx, c0, c1, c2, c3⟩ = [114, 117, 110, 32] ++ Lib.itoa c0 ++ [32] ++ Lib.itoa c1 ++ [32] ++ Lib.itoa c2 ++ [32] ++ Lib.itoa c3 ++ [32] ++ wordL tx := by simp [lineL, wordsOf, Lib.join, doW, nameL]
    rw [hl]
    cases d
    · exact op_run_unit k nm tx c0 c1 c2 c3 w (hm 3 h) htx hG hv.c0 hv.c1 hv.c2 hv.c3
    · exact op_run_def k nm tx c0 c1 c2 c3 w (hm 3 h) htx hG hv.c0 hv.c1 hv.c2 hv.c3
  · have ho : opV ⟨k, d, nm, tx, c0, c1, c2, c3⟩ = ⟨5, false, nm, [], 0, 0, 0, 0⟩ := by unfold opV; simp only [h]
    rw [ho]
    have hl : lineL ⟨5, false, nm, [], 0, 0, 0, 0⟩ = [115, 121, 109, 98, 111, 108, 115, 32] ++ wordL nm := by simp [lineL, wordsOf, Lib.join, doW, nameL]
    rw [hl, ← headB_word 5 _ _ rfl]
    cases d
    · exact op_sym_unit k nm tx c0 c1 c2 c3 w (hm 4 h) hnm hG
    · exact op_sym_def k nm tx c0 c1 c2 c3 w (hm 4 h) hnm hG
  · have ho : opV ⟨k, d, nm, tx, c0, c1, c2, c3⟩ = ⟨6, false, nm, [], 0, 0, 0, 0⟩ := by unfold opV; simp only [h]
    rw [ho]
    have hl : lineL ⟨6, false, nm, [], 0, 0, 0, 0⟩ = [111, 98, 106, 101, 99, 116, 32] ++ wordL nm := by simp [lineL, wordsOf, Lib.join, doW, nameL]
    rw [hl, ← headB_word 6 _ _ rfl]
    cases d
    · exact op_obj_unit k nm tx c0 c1 c2 c3 w (hm 5 h) hnm hG
    · exact op_obj_def k nm tx c0 c1 c2 c3 w (hm 5 h) hnm hG
  · have ho : opV ⟨k, d, nm, tx, c0, c1, c2, c3⟩ = ⟨7, false, [], tx, 0, 0, 0, 0⟩ := by unfold opV; simp only [h]
    rw [ho]
    have hl : lineL ⟨7, false, [], tx, 0, 0, 0, 0⟩ = [105, 109, 97, 103, 101, 32] ++ wordL tx := by simp [lineL, wordsOf, Lib.join, doW, nameL]
    rw [hl]
    cases d
    · exact op_image_unit k nm tx c0 c1 c2 c3 w (hm 6 h) htx hG
    · exact op_image_def k nm tx c0 c1 c2 c3 w (hm 6 h) htx hG
end Go.Proofs.YtadncponjpdcmaaGreatDoor

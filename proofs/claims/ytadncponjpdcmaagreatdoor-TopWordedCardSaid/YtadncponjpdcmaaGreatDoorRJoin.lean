/-
  Small contracts for read32: Join over a row that is owned; the seven texts; what the last text is.
-/
import Derived.Test.YtadncponjpdcmaaGreatDoorRBase
namespace Go.Proofs.YtadncponjpdcmaaGreatDoor
open Go.RowKit

theorem join_row (ls : List Bs) (base : Nat) (A : Option Addr) (c : Nat) (k : UInt8) (w : World) (h : w.ownsRow base 9 1 (.slice A ls.length c) ls.length (ls.map str)) (hl : (Lib.join ls [k]).length ≤ 1000000) (hn : ls.length ≤ 1000) :
    Calls Tryz.prog 13 #[.slice A ls.length c, .string ⟨#[k]⟩] w fun e w' => e = .returned (str (Lib.join ls [k])) ∧ Below w.heap.size w w' := by
  rcases h.2 with ⟨hv, hn0⟩ | ⟨g, cap, cur, hv, _, hh, hcap, hm, _⟩
  · have : ls = [] := List.length_eq_zero_iff.1 hn0
    subst this
    refine (Tryz.strings_Join_none A c ⟨#[k]⟩ w).mono ?_
    rintro e w' ⟨rfl, rfl⟩
    exact ⟨rfl, Below.refl _ _⟩
  · injection hv with hA _ hc
    subst hA hc
    have hlt : g < w.heap.size := by
      rcases Nat.lt_or_ge g w.heap.size with hlt | hge
      · exact hlt
      · rw [Array.getElem?_eq_none hge] at hh; cases hh
    have hmap : ((ls.map fun l => (⟨l.toArray⟩ : ByteArray)).map (·.data.toList)) = ls := by simp [Function.comp_def]
    have cj := Tryz.strings_Join g 0 c (ls.map fun l => (⟨l.toArray⟩ : ByteArray)) ⟨#[k]⟩ w (by
      intro j x hj
      have hj2 : j < ls.length := by
        have := (List.getElem?_eq_some_iff.1 hj).1
        simpa using this
      rw [Nat.zero_add, h.cellAt j (by omega)]
      have hx : x = ⟨ls[j].toArray⟩ := by
        rw [List.getElem?_map, List.getElem?_eq_getElem hj2] at hj
        simpa using hj.symm
      subst hx
      simp [hj2]) hlt (by simp; omega) (by simpa using hcap) (by rw [hmap]; show (Lib.join ls [k]).length ≤ _; omega)
    rw [hmap] at cj
    simp only [List.length_map] at cj
    exact cj

/-- The seven texts. -/
def sevenL (J : Bs) : List Bs := [[], [45], [97, 32, 98], [195, 169, 37], [233], [0, 127], J]
theorem seven_short (J : Bs) (h : J.length ≤ 100000) : ∀ s ∈ sevenL J, s.length ≤ 100000 := by
  intro s hs
  simp only [sevenL, List.mem_cons, List.not_mem_nil, or_false] at hs
  rcases hs with rfl | rfl | rfl | rfl | rfl | rfl | rfl <;> first | exact h | decide

theorem join_nl_length (ls : List Bs) (h : ∀ l ∈ ls, l.length ≤ 4000) (hn : ls.length ≤ 12) : (Lib.join ls [10]).length ≤ 100000 := by
  have hl := lens_le 4000 ls h
  cases ls with
  | nil => simp [Lib.join]
  | cons x r =>
    rw [Lib.join_length]
    simp at hl hn ⊢
    omega

theorem loose_noNl : ∀ l ∈ looseL, NoB 10 l := by
  have : ∀ l ∈ looseL, ∀ c ∈ l, c ≠ 10 := by decide +kernel
  exact this

/-- The text with the line that is none: its rows, and what is parsed. -/
theorem wrong_text {os : List OpL} {ls : List Bs} (h : AllGood os ls) (bl : List Nat) (odd : Nat) (hodd : odd ≤ os.length) (l : Bs) (hl : l ∈ looseL) :
    let rows := rowsN bl ls odd ++ l :: rowsFrom bl ls odd (os.length - odd)
    IsRows (glue (rowsN bl ls odd) ++ l ++ [10] ++ (glue (rowsN bl ls os.length)).drop (glue (rowsN bl ls odd)).length) rows ∧
    parseRows 1 rows [] = ([], 1 + (rowsN bl ls odd).length, 320) ∧ rows.length ≤ 37 ∧
    (glue (rowsN bl ls odd) ++ l ++ [10] ++ (glue (rowsN bl ls os.length)).drop (glue (rowsN bl ls odd)).length) = glue rows := by
  intro rows
  have hs := rowsN_split bl ls (os.length - odd) odd
  rw [show odd + (os.length - odd) = os.length by omega] at hs
  have hd : (glue (rowsN bl ls os.length)).drop (glue (rowsN bl ls odd)).length = glue (rowsFrom bl ls odd (os.length - odd)) := by
    rw [hs, glue_app, List.drop_left]
  have he : glue (rowsN bl ls odd) ++ l ++ [10] ++ glue (rowsFrom bl ls odd (os.length - odd)) = glue rows := by
    show _ = glue (rowsN bl ls odd ++ l :: rowsFrom bl ls odd (os.length - odd))
    rw [glue_app, glue_cons]
    simp
  obtain ⟨r1, r2, _⟩ := rowsN_ok h bl os.length (Nat.le_refl _)
  rw [hs] at r1 r2
  rw [List.length_append] at r2
  have hf := h.few
  have hlen := h.len
  refine ⟨?_, ?_, ?_, by rw [hd, he]⟩
  · rw [hd, he]
    apply rows_glue
    intro p hp
    rcases List.mem_append.1 hp with hp | hp
    · exact r1 p (List.mem_append.2 (.inl hp))
    · rcases List.mem_cons.1 hp with rfl | hp
      · exact loose_noNl _ hl
      · exact r1 p (List.mem_append.2 (.inr hp))
  · show parseRows 1 (rowsN bl ls odd ++ l :: rowsFrom bl ls odd (os.length - odd)) [] = _
    rw [rowsN_from, parse_wrong h bl l hl odd 0 [] 1 _ (by omega)]
  · show (rowsN bl ls odd ++ l :: rowsFrom bl ls odd (os.length - odd)).length ≤ 37
    rw [List.length_append, List.length_cons]
    omega

end Go.Proofs.YtadncponjpdcmaaGreatDoor

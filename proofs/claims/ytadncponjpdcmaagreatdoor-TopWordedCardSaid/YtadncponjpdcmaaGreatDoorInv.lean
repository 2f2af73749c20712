/-
  A region that draws its order, by an invariant: whatever order, each operation is stepped once.
-/
import Derived.Test.YtadncponjpdcmaaGreatDoorVerse
import Derived.Maps.OwnSet
namespace Go.Proofs.YtadncponjpdcmaaGreatDoor
open Go.RowKit

section
variable {P : Program} {md : Region.Mode} {ops : Array Oper} {Q : Exit → Act → World → Prop}

theorem ready_at {listed : Array Bool} {i : Nat} (h : i ∈ Region.ready md ops listed) {o : Oper} (ho : ops[i]? = some o) :
    listed.getD i true = false ∧ ∀ (j : Nat) (e : Edge), o.after[j]? = some e → Region.binds md e = true → listed.getD e.on false = true := by
  unfold Region.ready at h
  obtain ⟨_, h2⟩ := List.mem_filter.1 h
  rw [ho] at h2
  simp only [Option.map_some, Option.getD_some, Bool.and_eq_true, Bool.not_eq_true', Array.all_eq_true', Bool.or_eq_true] at h2
  refine ⟨h2.1, fun j e hj hb => ?_⟩
  have := h2.2 e (Array.mem_of_getElem? hj)
  rcases this with h3 | h3
  · rw [hb] at h3; cases h3
  · exact h3

theorem ready_lt {listed : Array Bool} {i : Nat} (h : i ∈ Region.ready md ops listed) : i < ops.size := by
  unfold Region.ready at h
  exact List.mem_range.1 (List.mem_filter.1 h).1

def unlisted (l : Array Bool) : Nat := (l.toList.filter (! ·)).length

theorem unlisted_set : ∀ (l : List Bool) (i : Nat), l[i]? = some false → ((l.set i true).filter (! ·)).length + 1 = (l.filter (! ·)).length
  | b :: l, 0, h => by
    simp at h
    subst h
    simp
  | b :: l, i + 1, h => by
    have ih := unlisted_set l i (by simpa using h)
    rw [List.set_cons_succ, List.filter_cons, List.filter_cons]
    split
    · simp only [List.length_cons]; omega
    · exact ih

theorem ready_none {l : Array Bool} (h : unlisted l = 0) : Region.ready md ops l = [] := by
  unfold Region.ready
  rw [List.filter_eq_nil_iff]
  intro i _
  have : l.getD i true = true := by
    cases hl : l.getD i true with
    | true => rfl
    | false =>
      exfalso
      rw [Array.getD_eq_getD_getElem?] at hl
      cases hg : l[i]? with
      | none => rw [hg] at hl; cases hl
      | some b =>
        rw [hg] at hl
        simp at hl
        subst hl
        have hm : false ∈ l.toList.filter (! ·) := List.mem_filter.2 ⟨Array.mem_toList_iff.2 (Array.mem_of_getElem? hg), rfl⟩
        unfold unlisted at h
        rw [List.length_eq_zero_iff] at h
        rw [h] at hm
        cases hm
  rw [this]
  simp

theorem wpAny_inv (I : Array Bool → Act → World → Prop)
    (hstep : ∀ listed a w, I listed a w → ∀ i ∈ Region.ready md ops listed, wpOp P ops Q i (I (listed.setIfInBounds i true)) a w)
    (hend : ∀ listed a w, I listed a w → Region.ready md ops listed = [] → Q .normal a w) :
    ∀ (fuel : Nat) (listed : Array Bool) (a : Act) (w : World), I listed a w → unlisted listed ≤ fuel → wpAny P md ops Q fuel listed a w
  | 0, listed, a, w, h, hu => ⟨ready_none (by omega), hend _ _ _ h (ready_none (by omega))⟩
  | fuel + 1, listed, a, w, h, hu => by
    refine ⟨fun h0 => hend _ _ _ h h0, fun i hi => ?_⟩
    refine wpOp_mono (fun a' w' h' => wpAny_inv I hstep hend fuel _ a' w' h' ?_) (hstep _ _ _ h i hi)
    obtain ⟨o, ho⟩ : ∃ o, ops[i]? = some o := ⟨_, Array.getElem?_eq_getElem (ready_lt hi)⟩
    have hf := (ready_at hi ho).1
    have hl : listed.toList[i]? = some false := by
      rw [Array.getD_eq_getD_getElem?] at hf
      rw [Array.getElem?_toList]
      cases hg : listed[i]? with
      | none => rw [hg] at hf; cases hf
      | some b => rw [hg] at hf; simp at hf; subst hf; rfl
    have := unlisted_set listed.toList i hl
    unfold unlisted at hu ⊢
    rw [Array.toList_setIfInBounds]
    omega
end

/-! ### The map of three kinds -/

abbrev lnkB : ByteArray := ⟨#[108, 105, 110, 107, 32]⟩
abbrev symB : ByteArray := ⟨#[115, 121, 109, 98, 111, 108, 115, 32]⟩
abbrev objB : ByteArray := ⟨#[111, 98, 106, 101, 99, 116, 32]⟩
def ents (b2 b3 b4 : Bool) : DataW Unit := .map ((if b2 then [(Lit.int .u8 3, .lit (.string lnkB.data.toList))] else []) ++ (if b3 then [(Lit.int .u8 5, .lit (.string symB.data.toList))] else []) ++ (if b4 then [(Lit.int .u8 6, .lit (.string objB.data.toList))] else []))
def cnt (b2 b3 b4 : Bool) : Nat := (if b2 then 1 else 0) + (if b3 then 1 else 0) + (if b4 then 1 else 0)

def MapAt (w : World) (g : Nat) (b2 b3 b4 : Bool) : Prop := w.ownsMap Tryz.prog 5 (plainElem (H := Unit) Tryz.prog 9) g (cnt b2 b3 b4) (ents b2 b3 b4)

theorem MapAt.keep {w w' : World} {g : Nat} {b2 b3 b4 : Bool} (h : MapAt w g b2 b3 b4) (hb : w'.heap[g]? = w.heap[g]?) : MapAt w' g b2 b3 b4 := by
  obtain ⟨es, clock, hh, F, hs, hD⟩ := h
  exact ⟨es, clock, hb.trans hh, F, hs, hD⟩
theorem MapAt.lt {w : World} {g : Nat} {b2 b3 b4 : Bool} (h : MapAt w g b2 b3 b4) : g < w.heap.size := World.ownsMap.lt h

theorem MapAt.made (w : World) : MapAt (w.alloc (.map #[] 0)) w.heap.size false false false := World.ownsMap_made w _ _ _

theorem keys5 : Maps.Keyed Tryz.prog 5 := Maps.int_keyed Tryz.underlying5

theorem cnt_le (b2 b3 b4 : Bool) : cnt b2 b3 b4 < maxLen := by
  unfold maxLen cnt
  cases b2 <;> cases b3 <;> cases b4 <;> simp

theorem MapAt.ins3 {w : World} {g : Nat} {b3 b4 : Bool} (h : MapAt w g false b3 b4) :
    ∃ w', (Instr.mapUpdate 42 (.map (some g)) (.int .u8 3) (.string lnkB)).run Tryz.prog w = .ok () w' ∧ MapAt w' g true b3 b4 ∧ w.grownBy w' (some g) := by
  obtain ⟨w', h1, h2, h3⟩ := World.ownsMap.update h keys5 Tryz.underlying42 (cnt_le _ _ _) (Maps.keyOf_int_mk (q := .u8) (a := 3) Tryz.underlying5 (by decide)) (plainElem_string (H := Unit) Tryz.underlying9 (s := lnkB) (by decide))
  refine ⟨w', h1, ?_, h3⟩
  have e : (ents false b3 b4).put (.int .u8 3) (.lit (.string lnkB.data.toList)) = ents true b3 b4 := by cases b3 <;> cases b4 <;> rfl
  have e2 : cnt false b3 b4 + 1 = cnt true b3 b4 := by simp [cnt]; omega
  rw [e, e2] at h2
  exact h2
theorem MapAt.ins5 {w : World} {g : Nat} {b2 b4 : Bool} (h : MapAt w g b2 false b4) :
    ∃ w', (Instr.mapUpdate 42 (.map (some g)) (.int .u8 5) (.string symB)).run Tryz.prog w = .ok () w' ∧ MapAt w' g b2 true b4 ∧ w.grownBy w' (some g) := by
  obtain ⟨w', h1, h2, h3⟩ := World.ownsMap.update h keys5 Tryz.underlying42 (cnt_le _ _ _) (Maps.keyOf_int_mk (q := .u8) (a := 5) Tryz.underlying5 (by decide)) (plainElem_string (H := Unit) Tryz.underlying9 (s := symB) (by decide))
  refine ⟨w', h1, ?_, h3⟩
  have e : (ents b2 false b4).put (.int .u8 5) (.lit (.string symB.data.toList)) = ents b2 true b4 := by cases b2 <;> cases b4 <;> rfl
  have e2 : cnt b2 false b4 + 1 = cnt b2 true b4 := by simp [cnt]; omega
  rw [e, e2] at h2
  exact h2
theorem MapAt.ins6 {w : World} {g : Nat} {b2 b3 : Bool} (h : MapAt w g b2 b3 false) :
    ∃ w', (Instr.mapUpdate 42 (.map (some g)) (.int .u8 6) (.string objB)).run Tryz.prog w = .ok () w' ∧ MapAt w' g b2 b3 true ∧ w.grownBy w' (some g) := by
  obtain ⟨w', h1, h2, h3⟩ := World.ownsMap.update h keys5 Tryz.underlying42 (cnt_le _ _ _) (Maps.keyOf_int_mk (q := .u8) (a := 6) Tryz.underlying5 (by decide)) (plainElem_string (H := Unit) Tryz.underlying9 (s := objB) (by decide))
  refine ⟨w', h1, ?_, h3⟩
  have e : (ents b2 b3 false).put (.int .u8 6) (.lit (.string objB.data.toList)) = ents b2 b3 true := by cases b2 <;> cases b3 <;> rfl
  have e2 : cnt b2 b3 false + 1 = cnt b2 b3 true := by simp [cnt]
  rw [e, e2] at h2
  exact h2

/-- The word of a kind. -/
def headB (d : Nat) : ByteArray := if d = 3 then lnkB else if d = 5 then symB else objB

theorem str_of_eq {s : ByteArray} {l : List UInt8} {ps : List MemPlace} (h : (some (DataW.lit (H := Unit) (Lit.string s.data.toList), ([] : List MemPlace)) : Option (DataW Unit × List MemPlace)) = some (.lit (.string l), ps)) : s.data.toList = l := by
  simp only [Option.some.injEq, Prod.mk.injEq, DataW.lit.injEq, Lit.string.injEq] at h
  exact h.1

theorem plain_str_inv {P : Program} {e : TypeId} (he : P.underlying e = some .string) {v : Value} {l : List UInt8} {ps : List MemPlace} (h : plainElem (H := Unit) P e v = some (.lit (.string l), ps)) : v = .string ⟨l.toArray⟩ := by
  unfold plainElem at h
  rw [he] at h
  cases v with
  | string s =>
    simp only at h
    split at h
    · have := str_of_eq h
      subst this
      rfl
    · cases h
  | _ => simp at h

theorem MapAt.look {w : World} {g d : Nat} (h : MapAt w g true true true) (hd : d = 3 ∨ d = 5 ∨ d = 6) :
    (Instr.lookup 42 (.map (some g)) (.int .u8 d) false).run Tryz.prog w = .ok (.string (headB d)) w := by
  obtain ⟨v, ps, h1, h2⟩ := World.ownsMap.lookup h keys5 Tryz.underlying42 (Tryz.zeroValue9 w) (plainElem_string (H := Unit) Tryz.underlying9 (s := ⟨#[]⟩) (by decide)) (Maps.keyOf_int_mk (q := .u8) (a := d) Tryz.underlying5 (by rcases hd with rfl | rfl | rfl <;> decide))
  have e : (ents true true true).atKey (.int .u8 d) (.lit (.string (ByteArray.mk #[]).data.toList)) = .lit (.string (headB d).data.toList) := by
    rcases hd with rfl | rfl | rfl <;> rfl
  rw [e] at h2
  have := plain_str_inv Tryz.underlying9 h2
  subst this
  exact h1

end Go.Proofs.YtadncponjpdcmaaGreatDoor

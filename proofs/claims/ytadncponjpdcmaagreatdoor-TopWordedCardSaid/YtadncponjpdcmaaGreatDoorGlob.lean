/-
  What the library's tables and sentinels hold, and what keeps it; small facts that several walks share.
-/
import Derived.Test.YtadncponjpdcmaaGreatDoorBld
import Derived.Lib.ConvBytes
import Derived.Lib.OthersKept
import Derived.Lib.RuneLoops
namespace Go.Proofs.YtadncponjpdcmaaGreatDoor
open Go.RowKit

/-- What the package-level variables of the library hold (blocks 0 to 7). -/
structure Glob (w : World) : Prop where
  maxLen : ∃ m, w.cell? ⟨0, 0, none⟩ = some (.int .i64 m)
  tabs : Lib.Utf8Tabs 1 2 w
  pow : Lib.TabIs Tryz.prog w "internal/strconv.uint64pow10" .u64 Lib.pow10Tab
  esyn : ∃ te pe, w.cell? ⟨4, 0, none⟩ = some (.iface te pe)
  eran : ∃ te pe, w.cell? ⟨5, 0, none⟩ = some (.iface te pe)
  size : 8 ≤ w.heap.size

theorem var_old {P : Program} {w w' : World} {n : String} {cs : Array Value} {g : Nat} (hg : P.globalNamed n = some g) (h : w.var? P n = some cs) (hb : w'.heap[g]? = w.heap[g]?) : w'.var? P n = some cs := by
  unfold World.var? at h ⊢
  simp only [hg, Option.bind_some] at h ⊢
  rw [hb]
  exact h

theorem pow_global : Tryz.prog.globalNamed "internal/strconv.uint64pow10" = some 3 := by kernel_rfl

theorem Glob.old {w w' : World} (h : Glob w) (hs : w.heap.size ≤ w'.heap.size) (hb : ∀ k, k < 8 → w'.heap[k]? = w.heap[k]?) : Glob w' := by
  have hc : ∀ b o, b < 8 → w'.cell? ⟨b, o, none⟩ = w.cell? ⟨b, o, none⟩ := fun b o hlt => World.cell?_of_block (w := w) (hb b hlt)
  have hsz := h.size
  refine ⟨?_, ?_, ?_, ?_, ?_, by omega⟩
  · obtain ⟨m, hm⟩ := h.maxLen; exact ⟨m, (hc _ _ (by omega)).trans hm⟩
  · have k := h.tabs
    exact ⟨fun c hlt => (hc _ _ (by omega)).trans (k.1 c hlt), fun i hi => ⟨(hc _ _ (by omega)).trans (k.2 i hi).1, (hc _ _ (by omega)).trans (k.2 i hi).2⟩⟩
  · exact var_old pow_global h.pow (hb 3 (by omega))
  · obtain ⟨a, b, hm⟩ := h.esyn; exact ⟨a, b, (hc _ _ (by omega)).trans hm⟩
  · obtain ⟨a, b, hm⟩ := h.eran; exact ⟨a, b, (hc _ _ (by omega)).trans hm⟩

theorem Glob.keep {w w' : World} {S : Nat → Prop} (h : Glob w) (k : Keep S w w') (hS : ∀ i, i < 8 → S i) : Glob w' :=
  h.old k.size fun i hi => k.block i (by have := h.size; omega) (hS i hi)
theorem Glob.below {w w' : World} {B : Nat} (h : Glob w) (k : Below B w w') (hB : 8 ≤ B) : Glob w' := h.old k.size fun i hi => k.block i (by omega)

theorem Keep.drewN_all (w : World) (n : Nat) (S : Nat → Prop) : Keep S w (w.drewN n) := (Keep.refl S w).drewN n

/-- '[]byte(s)': a new row that reads as the bytes. -/
theorem conv_bytes (s : ByteArray) (w : World) : ∃ (cap : Nat) (w' : World), (convert 9 23 (.string s)).run Tryz.prog w = .ok (.slice (some ⟨w.heap.size, 0, none⟩) s.size cap) w' ∧
    (∀ j, j < s.size → w'.cell? ⟨w.heap.size, j, none⟩ = some (.int .u8 (s.data.toList.getD j 0).toNat)) ∧ Keep (fun _ => True) w w' ∧ w'.heap.size = w.heap.size + 1 :=
  ⟨grownCap w s.size 0 5, Lib.bytesWorld w 5 s, Lib.run_convert_string_bytes w 9 23 5 s Tryz.underlying9 Tryz.underlying23 Tryz.underlying5,
    fun j hj => Lib.bytesWorld_cell w 5 s j hj, ⟨rfl, rfl, rfl, by rw [Lib.bytesWorld_size]; omega, fun k hk _ => Lib.bytesWorld_at_old w 5 s k hk⟩, Lib.bytesWorld_size w 5 s⟩

theorem ret_str {a b : ByteArray} (h : a = b) : Ending.returned (.string a) = .returned (.string b) := by rw [h]

theorem bytes_eq {a : ByteArray} {l : Bs} (h : a.data.toList = l) : a = ⟨l.toArray⟩ := by
  rw [← h]

theorem getD_get (s : ByteArray) (i : Nat) (h : i < s.size) : s.data.toList.getD i 0 = s[i] := by
  have : i < s.data.toList.length := by simpa using h
  rw [List.getD, List.getElem?_eq_getElem this]; rfl

theorem take_snoc (l : Bs) (k : Nat) (h : k < l.length) : l.take (k + 1) = l.take k ++ [l.getD k 0] := by
  rw [List.take_succ_eq_append_getElem h, List.getD, List.getElem?_eq_getElem h]; rfl

end Go.Proofs.YtadncponjpdcmaaGreatDoor

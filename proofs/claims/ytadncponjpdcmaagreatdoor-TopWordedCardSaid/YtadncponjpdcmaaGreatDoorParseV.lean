/-
  strconv.ParseUint, as lines.Text calls it.
-/
import Derived.Test.YtadncponjpdcmaaGreatDoorParseU
namespace Go.Proofs.YtadncponjpdcmaaGreatDoor
open Go.RowKit

/-- How strconv.ParseUint ends. -/
def PUOPost (r : Option Nat) (w : World) (e : Ending) (w' : World) : Prop :=
  (match r with
    | some n => e = .returned (.tuple #[.int .u64 n, .nilIface])
    | none => ∃ N, e = .returned (.tuple #[.int .u64 0, .iface 132 (.pointer (some ⟨N, 0, none⟩))])) ∧ Below w.heap.size w w'

theorem pu_any (s : ByteArray) (w : World) (h2 : s.size ≤ 2) : Calls Tryz.prog 69 #[.string s, .int .i64 16, .int .i64 8] w (PUPost (hexNum s.data.toList) w) := by
  by_cases h0 : s.data.toList = []
  · obtain rfl := str_empty h0
    exact pu_nil w
  · have h1 : 1 ≤ s.size := by
      rw [Lib.size_eq]; exact List.length_pos_iff.2 h0
    have := pu_some s w h1 h2 (hexFold 0 s.data.toList) rfl
    unfold hexNum
    rw [if_neg h0]
    exact this

set_option maxHeartbeats 1000000 in
set_option maxRecDepth 100000 in
theorem ParseUint_any (s : ByteArray) (w : World) (h2 : s.size ≤ 2) (hG : Glob w) : Calls Tryz.prog 44 #[.string s, .int .i64 16, .int .i64 8] w (PUOPost (hexNum s.data.toList) w) := by
  have c := pu_any s w h2
  generalize hexNum s.data.toList = R at c ⊢
  have C := Lib.hid c
  have HG := Lib.hid hG
  clear c hG
  go_enter Tryz.func44, Tryz.ntmps44
  go_wp2_with fail
  refine C.out.mono ?_
  intro e w1 hpost
  cases R with
  | some n =>
    obtain ⟨rfl, hb⟩ := hpost
    go_wp2
    go_ret2
    exact ⟨rfl, hb⟩
  | none =>
    obtain ⟨rfl, hb⟩ := hpost
    have hG1 := HG.out.below hb HG.out.size
    obtain ⟨te, pe, hev⟩ := hG1.esyn
    have HEV := Lib.hid hev
    clear hev hG1
    go_wp2_with fail
    refine (Tryz.strconv_toError_syntax _ _ _ _ _ _ (by omega) HEV.out (.inr ⟨te, pe, rfl⟩)).mono ?_
    rintro e w2 ⟨N, rfl, _, _, hb2⟩
    go_wp2
    go_ret2
    exact ⟨⟨N, rfl⟩, hb.trans (hb2.mono hb.size)⟩
end Go.Proofs.YtadncponjpdcmaaGreatDoor

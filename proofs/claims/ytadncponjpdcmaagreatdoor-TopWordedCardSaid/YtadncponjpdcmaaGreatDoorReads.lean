/-
  readText, readInt and the closures that write and read an op's kind and whether it is a definition.
-/
import Derived.Test.YtadncponjpdcmaaGreatDoorText
namespace Go.Proofs.YtadncponjpdcmaaGreatDoor
open Go.RowKit

def textR (w : Bs) : Bs := (textL w).getD []
def numR (w : Bs) : Int := match Lib.atoiAll w with
  | .ok v => v
  | .range => Lib.atoiSat w
  | _ => 0
def nameL : List Bs := [[], [112, 117, 116], [99, 111, 109, 112, 105, 108, 101], [108, 105, 110, 107], [114, 117, 110], [115, 121, 109, 98, 111, 108, 115], [111, 98, 106, 101, 99, 116], [105, 109, 97, 103, 101]]
def doW (d : Nat) : Bs := nameL.getD d []
def doR (w : Bs) : Nat := nameL.idxOf w % 8
def defW (b : Bool) : Bs := if b then [100, 101, 102] else [117, 110, 105, 116]
def defR (w : Bs) : Bool := decide (w = [100, 101, 102])

set_option maxHeartbeats 1000000 in
set_option maxRecDepth 100000 in
theorem readText_any (s : ByteArray) (w : World) (hs : s.size ≤ 1000000000) (hG : Glob w) :
    Calls Tryz.prog 60 #[.string s] w fun e w' => e = .returned (str (textR s.data.toList)) ∧ Below w.heap.size w w' := by
  have c := Text_any s w hs hG
  have ht : textR s.data.toList = (textL s.data.toList).getD [] := rfl
  rw [ht]
  clear hG ht
  generalize textL s.data.toList = R at c ⊢
  have C := Lib.hid c
  clear c
  go_enter Tryz.func60, Tryz.ntmps60
  go_wp2_with fail
  refine C.out.mono ?_
  intro e w1 hpost
  cases R with
  | some t =>
    obtain ⟨rfl, hb⟩ := hpost
    go_wp2
    go_ret
    exact ⟨rfl, hb⟩
  | none =>
    obtain ⟨rfl, hb⟩ := hpost
    go_wp2
    go_ret
    exact ⟨rfl, hb⟩

set_option maxHeartbeats 1000000 in
set_option maxRecDepth 100000 in
theorem readInt_any (s : ByteArray) (w : World) (hs : s.size ≤ 1000000000) (hG : Glob w) :
    Calls Tryz.prog 62 #[.string s] w fun e w' => e = .returned (.int .i64 (numR s.data.toList)) ∧ Below w.heap.size w w' := by
  have hn : numR s.data.toList = match Lib.atoiAll s.data.toList with
    | .ok v => v
    | .range => Lib.atoiSat s.data.toList
    | _ => 0 := rfl
  cases h : Lib.atoiAll s.data.toList with
  | ok v =>
    rw [h] at hn
    rw [hn]
    have c := Tryz.strconv_Atoi_ok s (by omega) v h w
    have C := Lib.hid c
    clear c h hn hG
    go_enter Tryz.func62, Tryz.ntmps62
    go_wp2_with fail
    refine C.out.mono ?_
    intro e w1 hpost
    have hb : Below w.heap.size w w1 := by
      rcases hpost.2 with rfl | ⟨t, rfl⟩
      · exact Below.refl _ _
      · exact ⟨rfl, rfl, rfl, by rw [Lib.bytesWorld_size]; omega, fun k hk => Lib.bytesWorld_at_old w 5 t k hk⟩
    obtain ⟨rfl, _⟩ := hpost
    go_wp2
    go_ret
    exact ⟨rfl, hb⟩
  | range =>
    rw [h] at hn
    rw [hn]
    obtain ⟨te, pe, hev⟩ := hG.eran
    have c := Tryz.strconv_Atoi_range s (by omega) h _ w hev (.inr ⟨te, pe, rfl⟩)
    have C := Lib.hid c
    clear c h hn hG hev
    go_enter Tryz.func62, Tryz.ntmps62
    go_wp2_with fail
    refine C.out.mono ?_
    rintro e w1 ⟨N, rfl, _, _, hb⟩
    go_wp2
    go_ret
    exact ⟨rfl, hb⟩
  | _ =>
    rw [h] at hn
    rw [hn]
    obtain ⟨te, pe, hev⟩ := hG.esyn
    have c := Any.strconv_Atoi_syntax Tryz.laysC172 s (by omega) h _ w hev (.inr ⟨te, pe, rfl⟩)
    have C := Lib.hid c
    clear c h hn hG hev
    go_enter Tryz.func62, Tryz.ntmps62
    go_wp2_with fail
    refine C.out.mono ?_
    rintro e w1 ⟨N, rfl, _, _, hb⟩
    go_wp2
    go_ret
    exact ⟨rfl, hb⟩

set_option maxHeartbeats 1000000 in
set_option maxRecDepth 100000 in
theorem defW_any (b : Bool) (w : World) : Calls Tryz.prog 57 #[.bool b] w fun e w' => e = .returned (str (defW b)) ∧ w = w' := by
  cases b
  all_goals
    go_enter Tryz.func57, Tryz.ntmps57
    go_wp2
    go_ret
    exact ⟨rfl, rfl⟩

set_option maxHeartbeats 1000000 in
set_option maxRecDepth 100000 in
theorem defR_any (s : ByteArray) (w : World) : Calls Tryz.prog 58 #[.string s] w fun e w' => e = .returned (.bool (defR s.data.toList)) ∧ w = w' := by
  have h : (s.toList == [100, 101, 102]) = defR s.data.toList := by
    rw [ByteArray.toList_eq]; unfold defR
    rw [Bool.eq_iff_iff]; simp
  generalize defR s.data.toList = R at h ⊢
  go_enter Tryz.func58, Tryz.ntmps58
  go_wp2
  go_ret
  exact ⟨rfl, rfl⟩

end Go.Proofs.YtadncponjpdcmaaGreatDoor

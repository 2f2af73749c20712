/-
  The coder's def, text and num, and one round of reading in one piece.
-/
import Derived.Test.YtadncponjpdcmaaGreatDoorOneW
import Derived.Test.YtadncponjpdcmaaGreatDoorOneR
namespace Go.Proofs.YtadncponjpdcmaaGreatDoor
open Go.RowKit

set_option maxHeartbeats 1000000 in
theorem def_of (K D off : Nat) (w : World) (Q : World → Prop) (h : Calls Tryz.prog 56 #[.pointer (some ⟨K, 0, none⟩), .pointer (some ⟨D, off, none⟩), .func (.func 57) #[] #[], .func (.func 58) #[] #[]] w fun e w' => e = .returned (.tuple #[]) ∧ Q w') :
    Calls Tryz.prog 32 #[.pointer (some ⟨K, 0, none⟩), .pointer (some ⟨D, off, none⟩)] w fun e w' => e = .returned (.tuple #[]) ∧ Q w' := by
  have H := Lib.hid h
  clear h
  go_enter Tryz.func32, Tryz.ntmps32
  go_wp2_with fail
  refine H.out.mono ?_
  rintro e w1 ⟨rfl, hq⟩
  have HQ := Lib.hid hq
  clear hq
  go_wp2
  go_end0
  exact ⟨rfl, HQ.out⟩

set_option maxHeartbeats 1000000 in
theorem text_of (K D off : Nat) (w : World) (Q : World → Prop) (h : Calls Tryz.prog 59 #[.pointer (some ⟨K, 0, none⟩), .pointer (some ⟨D, off, none⟩), .func (.func 20) #[] #[], .func (.func 60) #[] #[]] w fun e w' => e = .returned (.tuple #[]) ∧ Q w') :
    Calls Tryz.prog 33 #[.pointer (some ⟨K, 0, none⟩), .pointer (some ⟨D, off, none⟩)] w fun e w' => e = .returned (.tuple #[]) ∧ Q w' := by
  have H := Lib.hid h
  clear h
  go_enter Tryz.func33, Tryz.ntmps33
  go_wp2_with fail
  refine H.out.mono ?_
  rintro e w1 ⟨rfl, hq⟩
  have HQ := Lib.hid hq
  clear hq
  go_wp2
  go_end0
  exact ⟨rfl, HQ.out⟩

set_option maxHeartbeats 1000000 in
theorem num_of (K D off : Nat) (w : World) (Q : World → Prop) (h : Calls Tryz.prog 61 #[.pointer (some ⟨K, 0, none⟩), .pointer (some ⟨D, off, none⟩), .func (.func 9) #[] #[], .func (.func 62) #[] #[]] w fun e w' => e = .returned (.tuple #[]) ∧ Q w') :
    Calls Tryz.prog 34 #[.pointer (some ⟨K, 0, none⟩), .pointer (some ⟨D, off, none⟩)] w fun e w' => e = .returned (.tuple #[]) ∧ Q w' := by
  have H := Lib.hid h
  clear h
  go_enter Tryz.func34, Tryz.ntmps34
  go_wp2_with fail
  refine H.out.mono ?_
  rintro e w1 ⟨rfl, hq⟩
  have HQ := Lib.hid hq
  clear hq
  go_wp2
  go_end0
  exact ⟨rfl, HQ.out⟩

/-- What a round of reading makes of the words that are left, of whether they are bad, and of a value. -/
def stepR {T : Type} (W : T → Bs) (R : Bs → T) (st : List Bs × Bool) (x : T) : (List Bs × Bool) × T :=
  match st with
  | (s :: ws, false) => ((ws, decide (W (R s) ≠ s) || longB s), R s)
  | (ws, _) => ((ws, true), x)

theorem stepR_no {T : Type} (W : T → Bs) (R : Bs → T) (ws : List Bs) (bad : Bool) (x : T) (h : bad = true ∨ ws = []) : stepR W R (ws, bad) x = ((ws, true), x) := by
  unfold stepR
  rcases h with rfl | rfl
  · cases ws <;> rfl
  · rfl
theorem stepR_yes {T : Type} (W : T → Bs) (R : Bs → T) (s : Bs) (ws : List Bs) (x : T) : stepR W R (s :: ws, false) x = ((ws, decide (W (R s) ≠ s) || longB s), R s) := rfl

theorem step_cases (ws : List Bs) (bad : Bool) : (bad = true ∨ ws = []) ∨ ∃ s r, ws = s :: r ∧ bad = false := by
  cases bad with
  | true => exact .inl (.inl rfl)
  | false => cases ws with
    | nil => exact .inl (.inr rfl)
    | cons s r => exact .inr ⟨s, r, rfl, rfl⟩

theorem set_same {cs : Array Value} {off : Nat} {v : Value} (h : cs[off]? = some v) : cs.setIfInBounds off v = cs := by
  obtain ⟨hlt, he⟩ := Array.getElem?_eq_some_iff.1 h
  apply Array.ext
  · simp
  · intro i h1 h2
    rw [Array.getElem_setIfInBounds (by simpa using h2)]
    split
    · rename_i e; subst e; exact he.symm
    · rfl

/-- One round of reading in one piece: the contract behind a function that hands on to 'one'. -/
abbrev Round (B K D : Nat) (st : List Bs × Bool) (cs : Array Value) (w w' : World) : Prop :=
  RdC B K st.1 st.2 w' ∧ Blk w' D 33 cs ∧ Keep (fun i => i ≠ K ∧ i ≠ D) w w'

theorem r_str (B K D off : Nat) (st : List Bs × Bool) (cs : Array Value) (x : Bs) (w : World) (h : RdC B K st.1 st.2 w) (hD : Blk w D 33 cs) (hBD : B ≤ D) (hDK : D ≠ K)
    (hx : cs[off]? = some (str x)) (hss : ∀ s ∈ st.1, s.length ≤ 1000000000) (hxs : x.length ≤ 1000000000) (hG : Glob w) (hB8 : 8 ≤ B) :
    Calls Tryz.prog 33 #[.pointer (some ⟨K, 0, none⟩), .pointer (some ⟨D, off, none⟩)] w fun e w' => e = .returned (.tuple #[]) ∧
      Round B K D (stepR wordL textR st x).1 (cs.setIfInBounds off (str (stepR wordL textR st x).2)) w w' := by
  obtain ⟨ws, bad⟩ := st
  apply text_of
  rcases step_cases ws bad with hb | ⟨s, r, rfl, rfl⟩
  · rw [stepR_no _ _ _ _ _ hb]
    refine (one_str_no B K D off ws bad x w h hb ((hD.cell off).trans hx) hxs hG).mono ?_
    rintro e w' ⟨rfl, h1, h2⟩
    exact ⟨rfl, h1, by rw [set_same hx]; exact hD.kept h2 hDK, h2.mono (fun k _ h => h.1)⟩
  · rw [stepR_yes]
    exact one_str_yes B K D off s r cs x w h hD hBD hDK hx (hss s (by simp)) hxs hG hB8

theorem r_bool (B K D off : Nat) (st : List Bs × Bool) (cs : Array Value) (x : Bool) (w : World) (h : RdC B K st.1 st.2 w) (hD : Blk w D 33 cs) (hBD : B ≤ D) (hDK : D ≠ K)
    (hx : cs[off]? = some (.bool x)) (hss : ∀ s ∈ st.1, s.length ≤ 1000000000) (hG : Glob w) (hB8 : 8 ≤ B) :
    Calls Tryz.prog 32 #[.pointer (some ⟨K, 0, none⟩), .pointer (some ⟨D, off, none⟩)] w fun e w' => e = .returned (.tuple #[]) ∧
      Round B K D (stepR defW defR st x).1 (cs.setIfInBounds off (.bool (stepR defW defR st x).2)) w w' := by
  obtain ⟨ws, bad⟩ := st
  apply def_of
  rcases step_cases ws bad with hb | ⟨s, r, rfl, rfl⟩
  · rw [stepR_no _ _ _ _ _ hb]
    refine (one_bool_no B K D off ws bad x w h hb ((hD.cell off).trans hx) hG).mono ?_
    rintro e w' ⟨rfl, h1, h2⟩
    exact ⟨rfl, h1, by rw [set_same hx]; exact hD.kept h2 hDK, h2.mono (fun k _ h => h.1)⟩
  · rw [stepR_yes]
    exact one_bool_yes B K D off s r cs x w h hD hBD hDK hx (hss s (by simp)) hG hB8

theorem r_int (B K D off : Nat) (st : List Bs × Bool) (cs : Array Value) (x : Int) (w : World) (h : RdC B K st.1 st.2 w) (hD : Blk w D 33 cs) (hBD : B ≤ D) (hDK : D ≠ K)
    (hx : cs[off]? = some (.int .i64 x)) (hss : ∀ s ∈ st.1, s.length ≤ 1000000000) (hx0 : -9223372036854775808 ≤ x) (hx1 : x ≤ 9223372036854775807) (hG : Glob w) (hB8 : 8 ≤ B) :
    Calls Tryz.prog 34 #[.pointer (some ⟨K, 0, none⟩), .pointer (some ⟨D, off, none⟩)] w fun e w' => e = .returned (.tuple #[]) ∧
      Round B K D (stepR Lib.itoa numR st x).1 (cs.setIfInBounds off (.int .i64 (stepR Lib.itoa numR st x).2)) w w' := by
  obtain ⟨ws, bad⟩ := st
  apply num_of
  rcases step_cases ws bad with hb | ⟨s, r, rfl, rfl⟩
  · rw [stepR_no _ _ _ _ _ hb]
    refine (one_int_no B K D off ws bad x w h hb ((hD.cell off).trans hx) hx0 hx1 hG).mono ?_
    rintro e w' ⟨rfl, h1, h2⟩
    exact ⟨rfl, h1, by rw [set_same hx]; exact hD.kept h2 hDK, h2.mono (fun k _ h => h.1)⟩
  · rw [stepR_yes]
    exact one_int_yes B K D off s r cs x w h hD hBD hDK hx (hss s (by simp)) hx0 hx1 hG hB8

theorem r_do {V N : Nat} (B K D off : Nat) (st : List Bs × Bool) (cs : Array Value) (x : Nat) (w : World) (h : RdC B K st.1 st.2 w) (hD : Blk w D 33 cs) (hBD : B ≤ D) (hDK : D ≠ K)
    (hx : cs[off]? = some (.int .u8 x)) (hss : ∀ s ∈ st.1, s.length ≤ 1000000000) (hx8 : x < 256) (hG : Glob w) (hB8 : 8 ≤ B) (hN : Names V N w) (hVN : V ≠ K ∧ N ≠ K ∧ V ≠ D ∧ N ≠ D) :
    Calls Tryz.prog 28 #[.pointer (some ⟨K, 0, none⟩), .pointer (some ⟨D, off, none⟩), .func (.func 29) #[] #[.pointer (some ⟨V, 0, none⟩)], .func (.func 30) #[] #[.pointer (some ⟨V, 0, none⟩)]] w fun e w' => e = .returned (.tuple #[]) ∧
      Round B K D (stepR doW doR st x).1 (cs.setIfInBounds off (.int .u8 ((stepR doW doR st x).2 : Nat))) w w' := by
  obtain ⟨ws, bad⟩ := st
  rcases step_cases ws bad with hb | ⟨s, r, rfl, rfl⟩
  · rw [stepR_no _ _ _ _ _ hb]
    refine (one_do_no B K D off ws bad x w h hb ((hD.cell off).trans hx) hx8 hG hN).mono ?_
    rintro e w' ⟨rfl, h1, h2⟩
    exact ⟨rfl, h1, by rw [set_same hx]; exact hD.kept h2 hDK, h2.mono (fun k _ h => h.1)⟩
  · rw [stepR_yes]
    exact one_do_yes B K D off s r cs x w h hD hBD hDK hx (hss s (by simp)) hx8 hG hB8 hN hVN

end Go.Proofs.YtadncponjpdcmaaGreatDoor

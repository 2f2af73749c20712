/-
  TopWorded returns true at every input, and its arguments read as they did, where the library's listed variables hold what the program's own text lays in them: the row and its tied card, proved.
-/
import Derived.Test.YtadncponjpdcmaaGreatDoorTop
import Derived.ProofKit
import Derived.OpenShut
import Derived.Deep.Slices
import Derived.Test.YtadncponjpdcmaaGreatDoorRows
import GoSem.PinnedTables
import Derived.Lib.LaidU8T
import Derived.LaidLaws
import Derived.RowKit
import Derived.Test.YtadncponjpdcmaaGreatDoorTie
import Derived.Test.YtadncponjpdcmaaGreatDoorCards
import Derived.LaidMore
import Derived.Lay
import Derived.SevenTiedAt
import Derived.Stop.Joined
import Derived.Shelf.Vars
/-! ### The arguments, read as verses and as bytes -/
namespace Go.Proofs.YtadncponjpdcmaaGreatDoor
open Go.ChangeShapes Go.WideShapes Go.ChangeAt Go.RowKit Go.Deep

theorem c28 : Tryz.prog.cellsOf 28 = 8 := by kernel_rfl
theorem c26 : Tryz.prog.cellsOf 26 = 4 := by kernel_rfl
theorem c25 : Tryz.prog.cellsOf 25 = 1 := by kernel_rfl
theorem c9 : Tryz.prog.cellsOf 9 = 1 := by kernel_rfl
theorem c5 : Tryz.prog.cellsOf 5 = 1 := by kernel_rfl
theorem c4 : Tryz.prog.cellsOf 4 = 1 := by kernel_rfl

instance : Inhabited VerseL := ⟨⟨0, false, [], [], 0, 0, 0, 0⟩⟩

section
variable {H : Type} {enc : TypeId × Value → H} {w : World} {base : Nat} {spare : Nat → Bool} {held : Bool} {fuel : Nat} {cs : List Value} {x : DataW H × List MemPlace}

theorem i16_in {n : Int} (h : (Lit.int .i16 n).wf = true) : int16 n := bounds_i16 h

theorem four_of_trod (h : DataW.trod enc Tryz.prog w base spare held fuel 26 cs = some x) : ∃ a b c d : Int, cs = [.int .i16 a, .int .i16 b, .int .i16 c, .int .i16 d] ∧ int16 a ∧ int16 b ∧ int16 c ∧ int16 d := by
  obtain ⟨xs, m, _, _, hl, hx, hf⟩ := DataW.trod_array Tryz.underlying26 h
  rw [c26] at hl
  rw [c25] at hf
  match cs, hl, xs, hx with
  | [a0, a1, a2, a3], _, [x0, x1, x2, x3], _ =>
    have f0 : DataW.trod enc Tryz.prog w base spare held m 25 [a0] = some x0 := hf 0 (by omega)
    have f1 : DataW.trod enc Tryz.prog w base spare held m 25 [a1] = some x1 := hf 1 (by omega)
    have f2 : DataW.trod enc Tryz.prog w base spare held m 25 [a2] = some x2 := hf 2 (by omega)
    have f3 : DataW.trod enc Tryz.prog w base spare held m 25 [a3] = some x3 := hf 3 (by omega)
    obtain ⟨a, e0, _, w0⟩ := DataW.trod_int Tryz.underlying25 f0
    obtain ⟨b, e1, _, w1⟩ := DataW.trod_int Tryz.underlying25 f1
    obtain ⟨c, e2, _, w2⟩ := DataW.trod_int Tryz.underlying25 f2
    obtain ⟨d, e3, _, w3⟩ := DataW.trod_int Tryz.underlying25 f3
    obtain rfl := (List.cons.inj e0).1
    obtain rfl := (List.cons.inj e1).1
    obtain rfl := (List.cons.inj e2).1
    obtain rfl := (List.cons.inj e3).1
    exact ⟨a, b, c, d, rfl, i16_in w0, i16_in w1, i16_in w2, i16_in w3⟩

theorem str_of (s : ByteArray) : Value.string s = str s.data.toList := rfl

set_option maxRecDepth 100000 in
theorem verse_of_trod (h : DataW.trod enc Tryz.prog w base spare held fuel 28 cs = some x) : ∃ v : VerseL, cs = (verseCells v).toList ∧ VerseIn v := by
  obtain ⟨xs, m, _, _, hl, hx, hf⟩ := DataW.trod_struct Tryz.underlying28 h
  rw [c28] at hl
  match cs, hl, xs, hx with
  | [a0, a1, a2, a3, a4, a5, a6, a7], _, [x0, x1, x2, x3, x4], _ =>
    have f0 := hf 0 _ rfl
    have f1 := hf 1 _ rfl
    have f2 := hf 2 _ rfl
    have f3 := hf 3 _ rfl
    have f4 := hf 4 _ rfl
    have g0 : DataW.trod enc Tryz.prog w base spare held m 5 [a0] = some x0 := by simpa [c5] using f0
    have g1 : DataW.trod enc Tryz.prog w base spare held m 4 [a1] = some x1 := by simpa [c4] using f1
    have g2 : DataW.trod enc Tryz.prog w base spare held m 9 [a2] = some x2 := by simpa [c9] using f2
    have g3 : DataW.trod enc Tryz.prog w base spare held m 9 [a3] = some x3 := by simpa [c9] using f3
    have g4 : DataW.trod enc Tryz.prog w base spare held m 26 [a4, a5, a6, a7] = some x4 := by simpa [c26] using f4
    obtain ⟨k, e0, _, w0⟩ := DataW.trod_int Tryz.underlying5 g0
    obtain ⟨d, e1, _⟩ := DataW.trod_bool Tryz.underlying4 g1
    obtain ⟨nm, e2, _, w2⟩ := DataW.trod_string Tryz.underlying9 g2
    obtain ⟨tx, e3, _, w3⟩ := DataW.trod_string Tryz.underlying9 g3
    obtain ⟨a, b, c, z, e4, i0, i1, i2, i3⟩ := four_of_trod g4
    obtain rfl := (List.cons.inj e0).1
    obtain rfl := (List.cons.inj e1).1
    obtain rfl := (List.cons.inj e2).1
    obtain rfl := (List.cons.inj e3).1
    simp only [List.cons.injEq, and_true] at e4
    obtain ⟨rfl, rfl, rfl, rfl⟩ := e4
    have hk := bounds_u8 w0
    obtain ⟨k', rfl⟩ : ∃ q : Nat, k = q := ⟨k.toNat, by omega⟩
    unfold maxLen at w2 w3
    refine ⟨⟨k', d, nm.data.toList, tx.data.toList, a, b, c, z⟩, rfl, ⟨?_, ?_, ?_, i0, i1, i2, i3⟩⟩
    · show k' < 256
      omega
    · show nm.data.toList.length ≤ _
      simpa using w2
    · show tx.data.toList.length ≤ _
      simpa using w3

theorem verses_of_trod {A : Option Addr} {n c : Nat} (h : DataW.trod enc Tryz.prog w base spare held fuel 22 [.slice A n c] = some x) :
    ∃ vs : List VerseL, Reads w w.heap.size 8 A n (versesCells vs) ∧ (∀ v ∈ vs, VerseIn v) ∧ (A = none → n = 0) ∧ n ≤ c ∧ c ≤ maxLen := by
  rcases open_slice Tryz.underlying22 h with ⟨he, _⟩ | ⟨a, len, cap, m, k, D, Pl, he, _, hl, hc, hm, _, hel⟩
  · simp only [List.cons.injEq, and_true, Value.slice.injEq] at he
    obtain ⟨rfl, rfl, rfl⟩ := he
    exact ⟨[], ⟨rfl, fun h => absurd h (by omega)⟩, fun _ h => (by cases h), fun _ => rfl, Nat.le_refl _, by unfold maxLen; omega⟩
  · simp only [List.cons.injEq, and_true, Value.slice.injEq] at he
    obtain ⟨rfl, rfl, rfl⟩ := he
    rw [c28] at hel
    have hlm : n ≤ m := by rw [hm]; split <;> omega
    obtain ⟨V, hV⟩ := choose_lt (α := VerseL) (p := fun i v => (∀ t, t < 8 → w.cell? (a.add (i * 8 + t)) = (verseCells v)[t]?) ∧ VerseIn v) (n := n) (fun i hi => by
      obtain ⟨cs', h1, h2⟩ := hel i (by omega)
      obtain ⟨_, _, h3⟩ := World.cells?_some h1
      obtain ⟨v, rfl, hv⟩ := verse_of_trod h2
      refine ⟨v, fun t ht => ?_, hv⟩
      have := h3 t ht
      rw [Addr.add_add] at this
      rw [this, Array.getElem?_toList])
    have hlen : ((List.range n).map V).length = n := by simp
    refine ⟨(List.range n).map V, ⟨by rw [versesCells_length, hlen], fun h0 => ⟨a, rfl, ?_, fun j u hj => ?_⟩⟩, fun v hv => ?_, fun e => (by cases e), hl, hc⟩
    · have := (hV 0 h0).1 0 (by omega)
      simp only [verseCells] at this
      exact World.block_lt_of_cell? (a := a.add (0 * 8 + 0)) (w := w) this
    · obtain ⟨hj1, _⟩ := List.getElem?_eq_some_iff.1 hj
      rw [versesCells_length, hlen] at hj1
      obtain ⟨q, t, rfl, ht⟩ : ∃ q t, j = q * 8 + t ∧ t < 8 := ⟨j / 8, j % 8, by omega, by omega⟩
      have hq : q < n := by omega
      rw [(hV q hq).1 t ht, ← hj, versesCells_at _ q t (by rw [hlen]; exact hq) ht]
      simp
    · obtain ⟨i, hi, rfl⟩ := List.mem_map.1 hv
      exact (hV i (by simpa using hi)).2

theorem bytes_of_trod {A : Option Addr} {n c : Nat} (h : DataW.trod enc Tryz.prog w base spare held fuel 23 [.slice A n c] = some x) :
    ∃ bl : List Nat, Reads w w.heap.size 1 A n (bl.map fun k : Nat => Value.int .u8 k) ∧ (∀ k ∈ bl, k < 256) := by
  rcases open_ints Tryz.underlying23 Tryz.underlying5 c5 h with ⟨he, _⟩ | ⟨a, len, cap, zs, he, _, hl, hc, hz, _, hcell, hwf⟩
  · simp only [List.cons.injEq, and_true, Value.slice.injEq] at he
    obtain ⟨rfl, rfl, rfl⟩ := he
    exact ⟨[], ⟨rfl, fun h => absurd h (by omega)⟩, fun _ h => (by cases h)⟩
  · simp only [List.cons.injEq, and_true, Value.slice.injEq] at he
    obtain ⟨rfl, rfl, rfl⟩ := he
    have hlz : n ≤ zs.length := by rw [hz]; split <;> omega
    refine ⟨(zs.take n).map Int.toNat, ⟨by simp; omega, fun h0 => ⟨a, rfl, ?_, fun j u hj => ?_⟩⟩, fun k hk => ?_⟩
    · exact World.block_lt_of_cell? (a := a.add 0) (w := w) (hcell 0 (by omega))
    · obtain ⟨hj1, _⟩ := List.getElem?_eq_some_iff.1 hj
      have hj2 : j < n := by simp at hj1; omega
      have hjz : j < zs.length := by omega
      rw [hcell j hjz, ← hj]
      have hb := bounds_u8 (hwf _ (List.getElem_mem hjz))
      have e : (((zs[j]).toNat : Nat) : Int) = zs[j] := by omega
      simp [hj2, List.getElem?_eq_getElem hjz, e]
    · obtain ⟨z, hz', rfl⟩ := List.mem_map.1 hk
      have := bounds_u8 (hwf z (List.mem_of_mem_take hz'))
      omega
end
end Go.Proofs.YtadncponjpdcmaaGreatDoor
/-! ### The laid variables: the tables and sentinels as the walks want them -/
namespace Go.Proofs.YtadncponjpdcmaaGreatDoor
open Go.RowKit Go.Shelf

theorem first_is : Rows.laid_unicode_utf8_first = Lib.firstData := by kernel_rfl
theorem accept_is : (Rows.laid_unicode_utf8_acceptRanges : DataW Unit) = Lib.acceptData := by kernel_rfl
theorem pow_is : (Rows.laid_internal_strconv_uint64pow10 : DataW Unit) = Lib.tabData .u64 Lib.pow10Tab := by kernel_rfl

theorem u8extra : U8Extra Tryz.prog Tryz.lays196_ren where
  n3 := by kernel_rfl
  n4 := by kernel_rfl
  y3 := by kernel_rfl
  y4 := by kernel_rfl
  c5 := by kernel_rfl
  c119 := by kernel_rfl
  c138 := by kernel_rfl

theorem glob_of_laid {W : World} (h : laidMet Tryz.prog Rows.topWordedRow.laid W) (hm : ∃ m, W.cell? ⟨0, 0, none⟩ = some (.int .i64 m)) (hs : 8 ≤ W.heap.size) : Glob W := by
  have r1 := Lib.laidMet.reads h (n := "unicode/utf8.first") (d := Rows.laid_unicode_utf8_first) (by simp [Rows.topWordedRow])
  have r2 := Lib.laidMet.reads h (n := "unicode/utf8.acceptRanges") (d := Rows.laid_unicode_utf8_acceptRanges) (by simp [Rows.topWordedRow])
  have r3 := Lib.laidMet.reads h (n := "internal/strconv.uint64pow10") (d := Rows.laid_internal_strconv_uint64pow10) (by simp [Rows.topWordedRow])
  have r4 := Lib.laidMet.reads h (n := "strconv.ErrSyntax") (d := Rows.laid_strconv_ErrSyntax) (by simp [Rows.topWordedRow])
  have r5 := Lib.laidMet.reads h (n := "strconv.ErrRange") (d := Rows.laid_strconv_ErrRange) (by simp [Rows.topWordedRow])
  rw [first_is] at r1
  rw [accept_is] at r2
  rw [pow_is] at r3
  refine ⟨hm, utf8Tabs_of_readsT (U8Types.of196 Tryz.lays196) u8extra r1 r2, ?_, ?_, ?_, hs⟩
  · obtain ⟨g, t, cs, fuel, p, hg, ht, hv, hd⟩ := r3
    obtain rfl := Option.some.inj ((show Tryz.prog.globalNamed "internal/strconv.uint64pow10" = some 3 by kernel_rfl).symm.trans hg)
    obtain rfl := Option.some.inj ((show (Tryz.prog.globals[3]?).map (·.type) = some 137 by kernel_rfl).symm.trans ht)
    unfold Lib.TabIs
    rw [hv, ← Lib.cells_of_tab (e := 92) (n := 20) (show Tryz.prog.underlying 137 = some (.array 20 92) by kernel_rfl) (by kernel_rfl) (by kernel_rfl) (by kernel_rfl) hd]
  · obtain ⟨g, t, cs, fuel, p, hg, ht, hv, hd⟩ := r4
    obtain rfl := Option.some.inj ((show Tryz.prog.globalNamed "strconv.ErrSyntax" = some 4 by kernel_rfl).symm.trans hg)
    obtain rfl := Option.some.inj ((show (Tryz.prog.globals[4]?).map (·.type) = some 83 by kernel_rfl).symm.trans ht)
    obtain ⟨_, u, v, hcs, _, _⟩ := iface_of_trod Tryz.underlying83 hd
    have hc := World.var?_cell hg hv 0
    refine ⟨u, v, hc.trans ?_⟩
    rw [← Array.getElem?_toList, hcs]
    rfl
  · obtain ⟨g, t, cs, fuel, p, hg, ht, hv, hd⟩ := r5
    obtain rfl := Option.some.inj ((show Tryz.prog.globalNamed "strconv.ErrRange" = some 5 by kernel_rfl).symm.trans hg)
    obtain rfl := Option.some.inj ((show (Tryz.prog.globals[5]?).map (·.type) = some 83 by kernel_rfl).symm.trans ht)
    obtain ⟨_, u, v, hcs, _, _⟩ := iface_of_trod Tryz.underlying83 hd
    have hc := World.var?_cell hg hv 0
    refine ⟨u, v, hc.trans ?_⟩
    rw [← Array.getElem?_toList, hcs]
    rfl
end Go.Proofs.YtadncponjpdcmaaGreatDoor
namespace Go.Proofs.YtadncponjpdcmaaGreatDoor
open Go.ChangeShapes Go.WideShapes Go.ChangeAt Go.RowKit

theorem own : ownKnob Tryz.prog.godebug = none := by kernel_rfl
theorem laidOut : laidOutB Tryz.prog = true := by kernel_rfl

theorem glob_first {W : World} (hL : laidMetH Tryz.prog Rows.topWordedRow.laid W) (hS : W.ShapedOpen Tryz.prog) : Glob W := by
  rw [MakeChecks.laidMetH_plain _ _ _ (by kernel_rfl)] at hL
  refine glob_of_laid hL ?_ ?_
  · exact cell_of_shapedOpen_int (P := Tryz.prog) (g := 0) (t := 3) (zero := #[.int .i64 0]) hS (of_decide_eq_true (by kernel_rfl)) (by kernel_rfl) rfl (by kernel_rfl) (by kernel_rfl) Tryz.underlying3
  · obtain ⟨g, t, cs, fuel, p, hg, ht, hv, hd⟩ := Lib.laidMet.reads hL (n := "math/bits.deBruijn64tab") (d := Rows.laid_math_bits_deBruijn64tab) (by simp [Rows.topWordedRow])
    have h7 : Tryz.prog.globalNamed "math/bits.deBruijn64tab" = some 7 := by kernel_rfl
    unfold World.var? at hv
    rw [h7, Option.bind_some] at hv
    rcases Nat.lt_or_ge 7 W.heap.size with h | h
    · exact h
    · rw [Array.getElem?_eq_none h] at hv
      simp at hv

set_option maxRecDepth 100000 in
theorem lifted (os : Os) (started : os.Started) (H : Type) (enc : TypeId × Value → H) :
    ReturnsInHanded {} Tryz.checked os 3 .any (fun w args => (Rows.topWordedSpec.pre enc Tryz.prog Tryz.f3 [] false w args ∧ laidMetH Tryz.prog Rows.topWordedRow.laid w) ∧ sizedMet enc Tryz.prog Tryz.f3 (OpenSpec.ofChange Rows.topWordedSpec) false w args)
      (Rows.topWordedSpec.post enc Tryz.prog Tryz.f3 false true false false) := by
  refine returnsInHanded_of_calls (C := Tryz.checked) own started (by kernel_rfl)
    (ChangeSpec.witness_shaped (enc := enc) (C := Tryz.checked) (os := os) (X := fun w _ => laidMetH Tryz.prog Rows.topWordedRow.laid w) false (World.laidAll Tryz.prog os Rows.topWordedRow.laid) #[.slice none 0 0, .slice none 0 0, .int .u8 0, .int .u8 0] 8 (World.laidAll_os _ _ _)
      (World.shaped_of_ZipB (by kernel_rfl) (by kernel_rfl)) (by kernel_rfl) (by kernel_rfl) (by kernel_rfl)
      (by rw [MakeChecks.laidMetH_plain _ _ _ (by kernel_rfl)]; exact laidMet_laidAll _ (by kernel_rfl) (by kernel_rfl))) ?_
  intro w tape i _ hsh _ hok hpre hholds
  obtain ⟨_, _, _, fn', hfn', _, _, _, _, hval⟩ := hok
  obtain rfl : fn' = Tryz.f3 := Option.some.inj (hfn'.symm.trans Tryz.func3)
  obtain ⟨⟨⟨ds, gs, before, hw, _⟩, hL0⟩, _⟩ := hpre
  have hW : DataW.Whole enc Tryz.prog Tryz.f3.params.toList Rows.topWordedSpec.vars false (w.forCall tape i) i.args.toList ds gs before := DataW.Whole.of_heap (w' := w.forCall tape i) (by rfl) hw
  have hL : laidMetH Tryz.prog Rows.topWordedRow.laid (w.forCall tape i) := hL0.of_heap (by rfl)
  have hG := glob_first hL hsh
  clear hw hL0 hL
  obtain ⟨args, hargs⟩ : ∃ args, i.args = args := ⟨_, rfl⟩
  rw [hargs] at hval hW ⊢
  generalize w.forCall tape i = W at hval hW hG hsh ⊢
  have hW' := hW
  obtain ⟨p, q, hA0, hV, rfl, _, _⟩ := hW
  have hA : DataW.TrodAll enc Tryz.prog W 0 (fun _ => true) true Tryz.f3.params.toList args.toList ds p := hA0
  rw [Tryz.params3] at hA
  have hval' : ∀ (j : Nat) t v, (#[22, 23, 5, 5] : Array TypeId)[j]? = some t → args[j]? = some v → Value.okWide Tryz.prog W .any w.heap.size t v := by
    intro j t v h1 h2
    exact hval j t v (by rw [Tryz.params3]; exact h1) h2
  obtain ⟨v0, v1, v2, v3, d0, d1, d2, d3, p0, p1, p2, p3, rfl, rfl, rfl, h0, h1, h2, h3⟩ := trodAll_four hA
  obtain ⟨rfl, rfl⟩ := trodVars_none hV
  obtain ⟨A, n, c, rfl⟩ := okWide_slice Tryz.underlying22 (hval' 0 22 v0 rfl rfl)
  obtain ⟨Ab, nb, cb, rfl⟩ := okWide_slice Tryz.underlying23 (hval' 1 23 v1 rfl rfl)
  obtain ⟨x, rfl, rfl, rfl, wx⟩ := open_int Tryz.underlying5 (hval' 2 5 v2 rfl rfl) h2
  obtain ⟨y, rfl, rfl, rfl, wy⟩ := open_int Tryz.underlying5 (hval' 3 5 v3 rfl rfl) h3
  have bx := bounds_u8 wx
  have bY := bounds_u8 wy
  obtain ⟨x', rfl⟩ : ∃ q : Nat, x = q := ⟨x.toNat, by omega⟩
  obtain ⟨y', rfl⟩ : ∃ q : Nat, y = q := ⟨y.toNat, by omega⟩
  have h0k := h0
  have h1k := h1
  obtain ⟨f0, h0⟩ := h0
  obtain ⟨f1, h1⟩ := h1
  simp only [Value.cells] at h0 h1
  obtain ⟨vs, hr, hvs, hA0, hnc, hcm⟩ := verses_of_trod h0
  obtain ⟨bl, hb, hbl⟩ := bytes_of_trod h1
  have hlt : ∀ z ∈ p0 ++ p1 ++ [] ++ [] ++ [], z.block < W.heap.size := fun z hz => by simpa using hW'.lt z hz
  refine (Top_any W.heap.size A Ab n c nb cb vs bl x' y' W hr hA0 hnc hb (Nat.le_refl _) hvs hbl (by omega) (by omega) (by unfold maxLen at hcm; omega) hG).mono ?_
  rintro e W' ⟨rfl, hbe⟩
  refine ChangeSpec.post_blind ⟨_, _, _, [], p0 ++ (p1 ++ ([] ++ [])), [], hW', trodAll_mk1 (shut_bool Tryz.underlying4 _), ?_, rfl, hbe.frame _, fun h => by cases h⟩
  rw [Tryz.params3]
  exact trodAll_mk4 (Below.trod laidOut (by kernel_rfl) (of_decide_eq_true (by kernel_rfl)) h0k hbe (fun z hz => hlt z (by simp [hz]))) (Below.trod laidOut (by kernel_rfl) (of_decide_eq_true (by kernel_rfl)) h1k hbe (fun z hz => hlt z (by simp [hz]))) (shut_int Tryz.underlying5 wx) (shut_int Tryz.underlying5 wy)

theorem topWorded_holds : Rows.TopWordedSaid :=
  OpenClaim.holds_of_wide 3 Tryz.f3 rfl rfl rfl rfl rfl rfl rfl ⟨rfl, rfl, rfl, rfl, rfl⟩ rfl rfl rfl rfl rfl (by kernel_rfl) Tryz.func3 (by kernel_rfl)
    (of_decide_eq_true (by kernel_rfl)) (by unfold Func.isWrapper; first | (rw [if_pos (by decide +kernel)]; kernel_rfl) | (rw [if_neg (by decide +kernel)]; exact ⟨rfl, rfl⟩))
    (fun os started H enc _ => lifted os started H enc)

theorem topWorded_card_holds : Rows.TopWordedCardSaid :=
  Claim7.holds_tied_plain_at .later [] [.data, .data, .data, .data, .sentinel, .sentinel, .pinned] true (true, "3cf4b1d638ac819eb9eb21fbf3b01814fd7598f39237b33638be8b73e98b209f") true topWorded_holds (fun _ h => by cases h) (by kernel_rfl) (fun _ h => by cases h) topWorded_row_tie rfl ⟨rfl, rfl⟩ (by kernel_rfl) rfl
    (fun f fn hf hfn => by
      obtain rfl : f = 3 := Option.some.inj ((show Tryz.prog.funcNamed "separatum/separatumtop.TopWorded" = some 3 by kernel_rfl).symm.trans hf) |>.symm
      obtain rfl : fn = Tryz.f3 := (Option.some.inj (Tryz.func3.symm.trans hfn)).symm
      exact ⟨by kernel_rfl, fun j t ht => by
        rw [Tryz.params3] at ht
        have hm : t ∈ [22, 23, 5, 5] := by simpa using Array.mem_of_getElem? ht
        have hall : ([22, 23, 5, 5].all fun u => !Tryz.prog.wantsStandIn u) = true := by kernel_rfl
        exact (show Tryz.prog.wantsStandIn t = false by simpa using List.all_eq_true.1 hall t hm)⟩)
    (by kernel_rfl)
#print axioms topWorded_card_holds
end Go.Proofs.YtadncponjpdcmaaGreatDoor

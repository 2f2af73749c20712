/-
  The coder's op, writing: walked for each kind.
-/
import Derived.Test.YtadncponjpdcmaaGreatDoorRound
namespace Go.Proofs.YtadncponjpdcmaaGreatDoor
open Go.RowKit

/-- An op: its kind, whether it is a definition, its name and text, and its numbers. -/
structure OpL where
  d : Nat
  df : Bool
  nm : Bs
  tx : Bs
  n0 : Int
  n1 : Int
  n2 : Int
  n3 : Int
  deriving DecidableEq

def opCells (o : OpL) : Array Value := #[.int .u8 o.d, .bool o.df, str o.nm, str o.tx, .int .i64 o.n0, .int .i64 o.n1, .int .i64 o.n2, .int .i64 o.n3]

def int64 (n : Int) : Prop := -9223372036854775808 ≤ n ∧ n ≤ 9223372036854775807
structure OpOk (o : OpL) : Prop where
  d : o.d < 256
  nm : o.nm.length ≤ 1000000000
  tx : o.tx.length ≤ 1000000000
  n0 : int64 o.n0
  n1 : int64 o.n1
  n2 : int64 o.n2
  n3 : int64 o.n3

/-- The words of an op. -/
def wordsOf (o : OpL) : List Bs :=
  doW o.d :: match o.d with
    | 1 => [defW o.df, wordL o.tx]
    | 2 => [defW o.df, wordL o.nm]
    | 4 => [Lib.itoa o.n0, Lib.itoa o.n1, Lib.itoa o.n2, Lib.itoa o.n3, wordL o.tx]
    | 7 => [wordL o.tx]
    | _ => [wordL o.nm]
def badOf (ws : List Bs) : Bool := ws.any longB

theorem names_alloc (w : World) : Names (w.heap.size + 1) w.heap.size ((w.alloc (.cells (nameL.map str).toArray 9)).alloc (.cells #[.slice (some ⟨w.heap.size, 0, none⟩) 8 8] 29)) := by
  constructor
  · have := Blk.new (w.alloc (.cells (nameL.map str).toArray 9)) 29 #[.slice (some ⟨w.heap.size, 0, none⟩) 8 8]
    simpa using this
  · exact (Blk.new w 9 _).alloc _

theorem names_lit : (nameL.map str).toArray = #[Value.string ⟨#[]⟩, Value.string ⟨#[112, 117, 116]⟩, Value.string ⟨#[99, 111, 109, 112, 105, 108, 101]⟩, Value.string ⟨#[108, 105, 110, 107]⟩, Value.string ⟨#[114, 117, 110]⟩, Value.string ⟨#[115, 121, 109, 98, 111, 108, 115]⟩, Value.string ⟨#[111, 98, 106, 101, 99, 116]⟩, Value.string ⟨#[105, 109, 97, 103, 101]⟩] := rfl

/-- What stands while an op is written. -/
structure StW (base K D : Nat) (o : OpL) (ws : List Bs) (bad : Bool) (w w' : World) : Prop where
  wr : WrC base K ws bad w'
  blk : Blk w' D 33 (opCells o)
  glob : Glob w'
  keep : KW base K w w'
  few : ws.length ≤ 100
  dk : D < base ∧ D ≠ K ∧ 8 < base ∧ 8 ≤ K

theorem WrC.below {base K : Nat} {ws : List Bs} {bad : Bool} {w w' : World} (h : WrC base K ws bad w) (hb : Below w.heap.size w w') : WrC base K ws bad w' := by
  obtain ⟨hK, hbase, v, hk, hown⟩ := h
  exact ⟨hK, Nat.le_trans hbase hb.size, v, hk.below hb hk.lt, hown.kept (row := none) ⟨hb.os, hb.tape, hb.output, hb.size, fun k hk _ => hb.block k hk⟩ (by cases v.ownBlock <;> simp)⟩

theorem StW.start {base K D : Nat} {o : OpL} {ws : List Bs} {bad : Bool} {w w' : World} (h : WrC base K ws bad w) (hD : Blk w D 33 (opCells o)) (hG : Glob w) (hf : ws.length ≤ 100)
    (hdk : D < base ∧ D ≠ K ∧ 8 < base ∧ 8 ≤ K) (hb : Below w.heap.size w w') : StW base K D o ws bad w w' :=
  ⟨h.below hb, hD.below hb hD.lt, hG.below hb hG.size, Keep.of_below hb (fun _ _ h => h), hf, hdk⟩

theorem StW.next {base K D : Nat} {o : OpL} {ws : List Bs} {bad : Bool} {w w1 w2 : World} {W : Bs} (h : StW base K D o ws bad w w1) (hw : WrC base K (ws ++ [W]) (bad || longB W) w2) (hk : KW base K w1 w2)
    (hf : ws.length < 100) : StW base K D o (ws ++ [W]) (bad || longB W) w w2 :=
  ⟨hw, h.blk.kept hk ⟨h.dk.1, h.dk.2.1⟩, h.glob.keep hk (by have := h.dk; intro i hi; omega), h.keep.trans hk, by simp; omega, h.dk⟩

section
variable {base K D off : Nat} {o : OpL} {ws : List Bs} {bad : Bool} {w w1 : World}
theorem st_str {x : Bs} (h : StW base K D o ws bad w w1) (hx : (opCells o)[off]? = some (str x)) (hxs : x.length ≤ 1000000000) (hf : ws.length < 100) :
    Calls Tryz.prog 33 #[.pointer (some ⟨K, 0, none⟩), .pointer (some ⟨D, off, none⟩)] w1 fun e w2 => e = .returned (.tuple #[]) ∧ StW base K D o (ws ++ [wordL x]) (bad || longB (wordL x)) w w2 := by
  apply text_of
  refine (one_str_w base K D off ws bad x w1 h.wr ((h.blk.cell off).trans hx) hxs h.glob (by have := h.few; omega)).mono ?_
  rintro e w2 ⟨rfl, h1, h2, h3⟩
  exact ⟨rfl, h.next h1 h2 hf⟩
theorem st_bool {x : Bool} (h : StW base K D o ws bad w w1) (hx : (opCells o)[off]? = some (.bool x)) (hf : ws.length < 100) :
    Calls Tryz.prog 32 #[.pointer (some ⟨K, 0, none⟩), .pointer (some ⟨D, off, none⟩)] w1 fun e w2 => e = .returned (.tuple #[]) ∧ StW base K D o (ws ++ [defW x]) (bad || longB (defW x)) w w2 := by
  apply def_of
  refine (one_bool_w base K D off ws bad x w1 h.wr ((h.blk.cell off).trans hx) h.glob (by have := h.few; omega)).mono ?_
  rintro e w2 ⟨rfl, h1, h2, h3⟩
  exact ⟨rfl, h.next h1 h2 hf⟩
theorem st_int {x : Int} (h : StW base K D o ws bad w w1) (hx : (opCells o)[off]? = some (.int .i64 x)) (hx0 : int64 x) (hf : ws.length < 100) :
    Calls Tryz.prog 34 #[.pointer (some ⟨K, 0, none⟩), .pointer (some ⟨D, off, none⟩)] w1 fun e w2 => e = .returned (.tuple #[]) ∧ (StW base K D o (ws ++ [Lib.itoa x]) (bad || longB (Lib.itoa x)) w w2 ∧ Lib.OthersKept 9 (some K) w1 w2) := by
  apply num_of
  refine (one_int_w base K D off ws bad x w1 h.wr ((h.blk.cell off).trans hx) hx0.1 hx0.2 h.glob (by have := h.few; omega)).mono ?_
  rintro e w2 ⟨rfl, h1, h2, h3⟩
  exact ⟨rfl, h.next h1 h2 hf, h3⟩
theorem st_do {V N x : Nat} (h : StW base K D o ws bad w w1) (hx : (opCells o)[off]? = some (.int .u8 x)) (hx8 : x < 256) (hf : ws.length < 100) (hN : Names V N w1) :
    Calls Tryz.prog 28 #[.pointer (some ⟨K, 0, none⟩), .pointer (some ⟨D, off, none⟩), .func (.func 29) #[] #[.pointer (some ⟨V, 0, none⟩)], .func (.func 30) #[] #[.pointer (some ⟨V, 0, none⟩)]] w1 fun e w2 => e = .returned (.tuple #[]) ∧ StW base K D o (ws ++ [doW x]) (bad || longB (doW x)) w w2 := by
  refine (one_do_w base K D off ws bad x w1 h.wr ((h.blk.cell off).trans hx) hx8 h.glob hN (by have := h.few; omega)).mono ?_
  rintro e w2 ⟨rfl, h1, h2, h3⟩
  exact ⟨rfl, h.next h1 h2 hf⟩
end

/-- The op that is written, all of it. -/
def OpWPost (base K : Nat) (o : OpL) (w : World) (e : Ending) (w' : World) : Prop :=
  e = .returned (.tuple #[]) ∧ WrC base K (wordsOf o) (badOf (wordsOf o)) w' ∧ KW base K w w'

set_option maxHeartbeats 2000000 in
set_option maxRecDepth 100000 in
theorem op_w1 (base K D : Nat) (df : Bool) (nm tx : Bs) (n0 n1 n2 n3 : Int) (w : World) (h : WrC base K [] false w) (hD : Blk w D 33 (opCells ⟨1, df, nm, tx, n0, n1, n2, n3⟩))
    (hdk : D < base ∧ D ≠ K ∧ 8 < base ∧ 8 ≤ K) (ho : OpOk ⟨1, df, nm, tx, n0, n1, n2, n3⟩) (hG : Glob w) :
    Calls Tryz.prog 10 #[.pointer (some ⟨K, 0, none⟩), .pointer (some ⟨D, 0, none⟩)] w (OpWPost base K ⟨1, df, nm, tx, n0, n1, n2, n3⟩ w) := by
  have hN := names_alloc w
  have hS := StW.start (w' := (w.alloc (.cells (nameL.map str).toArray 9)).alloc (.cells #[.slice (some ⟨w.heap.size, 0, none⟩) 8 8] 29)) h hD hG (Nat.zero_le _) hdk
    (((Below.refl _ w).alloc (Nat.le_refl _) _).alloc (by simp) _)
  rw [names_lit] at hN hS
  have HN := Lib.hid hN
  have HS := Lib.hid hS
  have HO := Lib.hid ho
  clear hN h hG hD ho hS hdk
  go_enter Tryz.func10, Tryz.ntmps10
  go_wp2_with fail
  refine (st_do HS.out (x := 1) rfl (by decide) (by decide) HN.out).mono ?_
  rintro e w1 ⟨rfl, h1⟩
  have d1 : w1.cell? ⟨D, 0, none⟩ = some (.int .u8 1) := h1.blk.cell 0
  have H1 := Lib.hid h1
  clear h1
  go_wp2_with fail
  refine (st_bool H1.out rfl (by simp only [List.nil_append, List.length_append, List.length_cons, List.length_nil]; omega)).mono ?_
  rintro e w2 ⟨rfl, h2⟩
  have H2 := Lib.hid h2
  clear h2
  go_wp2_with fail
  refine (st_str H2.out rfl HO.out.tx (by simp only [List.nil_append, List.length_append, List.length_cons, List.length_nil]; omega)).mono ?_
  rintro e w3 ⟨rfl, h3⟩
  have H3 := Lib.hid h3
  clear h3
  go_wp2
  go_end0
  exact ⟨rfl, by simpa [wordsOf, badOf, Bool.or_assoc] using H3.out.wr, H3.out.keep⟩

set_option maxHeartbeats 2000000 in
set_option maxRecDepth 100000 in
theorem op_w2 (base K D : Nat) (df : Bool) (nm tx : Bs) (n0 n1 n2 n3 : Int) (w : World) (h : WrC base K [] false w) (hD : Blk w D 33 (opCells ⟨2, df, nm, tx, n0, n1, n2, n3⟩))
    (hdk : D < base ∧ D ≠ K ∧ 8 < base ∧ 8 ≤ K) (ho : OpOk ⟨2, df, nm, tx, n0, n1, n2, n3⟩) (hG : Glob w) :
    Calls Tryz.prog 10 #[.pointer (some ⟨K, 0, none⟩), .pointer (some ⟨D, 0, none⟩)] w (OpWPost base K ⟨2, df, nm, tx, n0, n1, n2, n3⟩ w) := by
  have hN := names_alloc w
  have hS := StW.start (w' := (w.alloc (.cells (nameL.map str).toArray 9)).alloc (.cells #[.slice (some ⟨w.heap.size, 0, none⟩) 8 8] 29)) h hD hG (Nat.zero_le _) hdk
    (((Below.refl _ w).alloc (Nat.le_refl _) _).alloc (by simp) _)
  rw [names_lit] at hN hS
  have HN := Lib.hid hN
  have HS := Lib.hid hS
  have HO := Lib.hid ho
  clear hN h hG hD ho hS hdk
  go_enter Tryz.func10, Tryz.ntmps10
  go_wp2_with fail
  refine (st_do HS.out (x := 2) rfl (by decide) (by decide) HN.out).mono ?_
  rintro e w1 ⟨rfl, h1⟩
  have d1 : w1.cell? ⟨D, 0, none⟩ = some (.int .u8 2) := h1.blk.cell 0
  have H1 := Lib.hid h1
  clear h1
  go_wp2_with fail
  refine (st_bool H1.out rfl (by simp only [List.nil_append, List.length_append, List.length_cons, List.length_nil]; omega)).mono ?_
  rintro e w2 ⟨rfl, h2⟩
  have H2 := Lib.hid h2
  clear h2
  go_wp2_with fail
  refine (st_str H2.out rfl HO.out.nm (by simp only [List.nil_append, List.length_append, List.length_cons, List.length_nil]; omega)).mono ?_
  rintro e w3 ⟨rfl, h3⟩
  have H3 := Lib.hid h3
  clear h3
  go_wp2
  go_end0
  exact ⟨rfl, by simpa [wordsOf, badOf, Bool.or_assoc] using H3.out.wr, H3.out.keep⟩

set_option maxHeartbeats 2000000 in
set_option maxRecDepth 100000 in
theorem op_w3 (base K D : Nat) (df : Bool) (nm tx : Bs) (n0 n1 n2 n3 : Int) (w : World) (h : WrC base K [] false w) (hD : Blk w D 33 (opCells ⟨3, df, nm, tx, n0, n1, n2, n3⟩))
    (hdk : D < base ∧ D ≠ K ∧ 8 < base ∧ 8 ≤ K) (ho : OpOk ⟨3, df, nm, tx, n0, n1, n2, n3⟩) (hG : Glob w) :
    Calls Tryz.prog 10 #[.pointer (some ⟨K, 0, none⟩), .pointer (some ⟨D, 0, none⟩)] w (OpWPost base K ⟨3, df, nm, tx, n0, n1, n2, n3⟩ w) := by
  have hN := names_alloc w
  have hS := StW.start (w' := (w.alloc (.cells (nameL.map str).toArray 9)).alloc (.cells #[.slice (some ⟨w.heap.size, 0, none⟩) 8 8] 29)) h hD hG (Nat.zero_le _) hdk
    (((Below.refl _ w).alloc (Nat.le_refl _) _).alloc (by simp) _)
  rw [names_lit] at hN hS
  have HN := Lib.hid hN
  have HS := Lib.hid hS
  have HO := Lib.hid ho
  clear hN h hG hD ho hS hdk
  go_enter Tryz.func10, Tryz.ntmps10
  go_wp2_with fail
  refine (st_do HS.out (x := 3) rfl (by decide) (by decide) HN.out).mono ?_
  rintro e w1 ⟨rfl, h1⟩
  have d1 : w1.cell? ⟨D, 0, none⟩ = some (.int .u8 3) := h1.blk.cell 0
  have H1 := Lib.hid h1
  clear h1
  go_wp2_with fail
  refine (st_str H1.out rfl HO.out.nm (by simp only [List.nil_append, List.length_append, List.length_cons, List.length_nil]; omega)).mono ?_
  rintro e w2 ⟨rfl, h2⟩
  have H2 := Lib.hid h2
  clear h2
  go_wp2
  go_end0
  exact ⟨rfl, by simpa [wordsOf, badOf, Bool.or_assoc] using H2.out.wr, H2.out.keep⟩

set_option maxHeartbeats 2000000 in
set_option maxRecDepth 100000 in
theorem op_w5 (base K D : Nat) (df : Bool) (nm tx : Bs) (n0 n1 n2 n3 : Int) (w : World) (h : WrC base K [] false w) (hD : Blk w D 33 (opCells ⟨5, df, nm, tx, n0, n1, n2, n3⟩))
    (hdk : D < base ∧ D ≠ K ∧ 8 < base ∧ 8 ≤ K) (ho : OpOk ⟨5, df, nm, tx, n0, n1, n2, n3⟩) (hG : Glob w) :
    Calls Tryz.prog 10 #[.pointer (some ⟨K, 0, none⟩), .pointer (some ⟨D, 0, none⟩)] w (OpWPost base K ⟨5, df, nm, tx, n0, n1, n2, n3⟩ w) := by
  have hN := names_alloc w
  have hS := StW.start (w' := (w.alloc (.cells (nameL.map str).toArray 9)).alloc (.cells #[.slice (some ⟨w.heap.size, 0, none⟩) 8 8] 29)) h hD hG (Nat.zero_le _) hdk
    (((Below.refl _ w).alloc (Nat.le_refl _) _).alloc (by simp) _)
  rw [names_lit] at hN hS
  have HN := Lib.hid hN
  have HS := Lib.hid hS
  have HO := Lib.hid ho
  clear hN h hG hD ho hS hdk
  go_enter Tryz.func10, Tryz.ntmps10
  go_wp2_with fail
  refine (st_do HS.out (x := 5) rfl (by decide) (by decide) HN.out).mono ?_
  rintro e w1 ⟨rfl, h1⟩
  have d1 : w1.cell? ⟨D, 0, none⟩ = some (.int .u8 5) := h1.blk.cell 0
  have H1 := Lib.hid h1
  clear h1
  go_wp2_with fail
  refine (st_str H1.out rfl HO.out.nm (by simp only [List.nil_append, List.length_append, List.length_cons, List.length_nil]; omega)).mono ?_
  rintro e w2 ⟨rfl, h2⟩
  have H2 := Lib.hid h2
  clear h2
  go_wp2
  go_end0
  exact ⟨rfl, by simpa [wordsOf, badOf, Bool.or_assoc] using H2.out.wr, H2.out.keep⟩

set_option maxHeartbeats 2000000 in
set_option maxRecDepth 100000 in
theorem op_w6 (base K D : Nat) (df : Bool) (nm tx : Bs) (n0 n1 n2 n3 : Int) (w : World) (h : WrC base K [] false w) (hD : Blk w D 33 (opCells ⟨6, df, nm, tx, n0, n1, n2, n3⟩))
    (hdk : D < base ∧ D ≠ K ∧ 8 < base ∧ 8 ≤ K) (ho : OpOk ⟨6, df, nm, tx, n0, n1, n2, n3⟩) (hG : Glob w) :
    Calls Tryz.prog 10 #[.pointer (some ⟨K, 0, none⟩), .pointer (some ⟨D, 0, none⟩)] w (OpWPost base K ⟨6, df, nm, tx, n0, n1, n2, n3⟩ w) := by
  have hN := names_alloc w
  have hS := StW.start (w' := (w.alloc (.cells (nameL.map str).toArray 9)).alloc (.cells #[.slice (some ⟨w.heap.size, 0, none⟩) 8 8] 29)) h hD hG (Nat.zero_le _) hdk
    (((Below.refl _ w).alloc (Nat.le_refl _) _).alloc (by simp) _)
  rw [names_lit] at hN hS
  have HN := Lib.hid hN
  have HS := Lib.hid hS
  have HO := Lib.hid ho
  clear hN h hG hD ho hS hdk
  go_enter Tryz.func10, Tryz.ntmps10
  go_wp2_with fail
  refine (st_do HS.out (x := 6) rfl (by decide) (by decide) HN.out).mono ?_
  rintro e w1 ⟨rfl, h1⟩
  have d1 : w1.cell? ⟨D, 0, none⟩ = some (.int .u8 6) := h1.blk.cell 0
  have H1 := Lib.hid h1
  clear h1
  go_wp2_with fail
  refine (st_str H1.out rfl HO.out.nm (by simp only [List.nil_append, List.length_append, List.length_cons, List.length_nil]; omega)).mono ?_
  rintro e w2 ⟨rfl, h2⟩
  have H2 := Lib.hid h2
  clear h2
  go_wp2
  go_end0
  exact ⟨rfl, by simpa [wordsOf, badOf, Bool.or_assoc] using H2.out.wr, H2.out.keep⟩

set_option maxHeartbeats 2000000 in
set_option maxRecDepth 100000 in
theorem op_w7 (base K D : Nat) (df : Bool) (nm tx : Bs) (n0 n1 n2 n3 : Int) (w : World) (h : WrC base K [] false w) (hD : Blk w D 33 (opCells ⟨7, df, nm, tx, n0, n1, n2, n3⟩))
    (hdk : D < base ∧ D ≠ K ∧ 8 < base ∧ 8 ≤ K) (ho : OpOk ⟨7, df, nm, tx, n0, n1, n2, n3⟩) (hG : Glob w) :
    Calls Tryz.prog 10 #[.pointer (some ⟨K, 0, none⟩), .pointer (some ⟨D, 0, none⟩)] w (OpWPost base K ⟨7, df, nm, tx, n0, n1, n2, n3⟩ w) := by
  have hN := names_alloc w
  have hS := StW.start (w' := (w.alloc (.cells (nameL.map str).toArray 9)).alloc (.cells #[.slice (some ⟨w.heap.size, 0, none⟩) 8 8] 29)) h hD hG (Nat.zero_le _) hdk
    (((Below.refl _ w).alloc (Nat.le_refl _) _).alloc (by simp) _)
  rw [names_lit] at hN hS
  have HN := Lib.hid hN
  have HS := Lib.hid hS
  have HO := Lib.hid ho
  clear hN h hG hD ho hS hdk
  go_enter Tryz.func10, Tryz.ntmps10
  go_wp2_with fail
  refine (st_do HS.out (x := 7) rfl (by decide) (by decide) HN.out).mono ?_
  rintro e w1 ⟨rfl, h1⟩
  have d1 : w1.cell? ⟨D, 0, none⟩ = some (.int .u8 7) := h1.blk.cell 0
  have H1 := Lib.hid h1
  clear h1
  go_wp2_with fail
  refine (st_str H1.out rfl HO.out.tx (by simp only [List.nil_append, List.length_append, List.length_cons, List.length_nil]; omega)).mono ?_
  rintro e w2 ⟨rfl, h2⟩
  have H2 := Lib.hid h2
  clear h2
  go_wp2
  go_end0
  exact ⟨rfl, by simpa [wordsOf, badOf, Bool.or_assoc] using H2.out.wr, H2.out.keep⟩

end Go.Proofs.YtadncponjpdcmaaGreatDoor

/-
  The invariant of the region that writes an op's word by a map (link, symbols, object). Printed by mkverse2.py.
-/
import Derived.Test.YtadncponjpdcmaaGreatDoorInv
namespace Go.Proofs.YtadncponjpdcmaaGreatDoor
open Go.RowKit

structure FM (w0 : World) (T : Nat) (nm W1 : Bs) (d : Nat) (ver : Array Value) (b0 b1 b2 b3 b4 b5 b6 b7 b8 b9 b10 b11 b12 b13 b14 : Bool) (v105 v106 v107 v108 v109 v110 v111 v112 v113 v114 v3 : Value) (w : World) : Prop where
  c2 : b2 = true → b1 = true
  c3 : b3 = true → b1 = true
  c4 : b4 = true → b1 = true
  c5 : b5 = true → b1 = true ∧ b2 = true ∧ b3 = true ∧ b4 = true
  e0 : b0 = true → v105 = .agg #[.int .u8 d, .bool false, .string ⟨nm.toArray⟩, .string ⟨#[]⟩, .int .i64 0, .int .i64 0, .int .i64 0, .int .i64 0]
  e1 : b1 = true → ∃ g, v106 = .map (some g) ∧ T + 3 ≤ g ∧ MapAt w g b2 b3 b4 ∧ (b5 = true → v107 = .map (some g))
  e6 : b6 = true → v108 = .pointer (some ⟨T + 1 + 1, 0, none⟩)
  e7 : b7 = true → v109 = .int .u8 d
  e8 : b8 = true → v110 = .string (headB d)
  e9 : b9 = true → v111 = .pointer (some ⟨T, 2, none⟩)
  e10 : b10 = true → v112 = str nm
  e11 : b11 = true → v113 = str W1
  e12 : b12 = true → v114 = .string (headB d ++ ⟨W1.toArray⟩)
  e14 : b14 = true → v3 = .string (headB d ++ ⟨W1.toArray⟩)
  hV : Blk w T 28 ver
  hD : Blk w (T + 1 + 1) 33 #[.int .u8 d, .bool false, .string ⟨nm.toArray⟩, .string ⟨#[]⟩, .int .i64 0, .int .i64 0, .int .i64 0, .int .i64 0]
  hS0 : ∃ cs, Blk w (T + 1) 33 cs ∧ cs.size = 8
  hS : b13 = true → Blk w (T + 1) 33 #[.int .u8 d, .bool false, .string ⟨nm.toArray⟩, .string ⟨#[]⟩, .int .i64 0, .int .i64 0, .int .i64 0, .int .i64 0]
  below : Below T w0 w

def JM (x0 x1 x2 x4 x5 x6 x7 x8 x9 x10 x11 x12 x13 x14 x15 x16 x17 x18 x19 x20 x21 x22 x23 x24 x25 x26 x27 x28 x29 x30 x31 x32 x33 x34 x35 x36 x37 x38 x39 x40 x41 x42 x43 x44 x45 x46 x47 x48 x49 x50 x51 x52 x53 x54 x55 x56 x57 x58 x59 x60 x61 x62 x63 x64 x65 x66 x67 x68 x69 x70 x71 x72 x73 x74 x75 x76 x77 x78 x79 x80 x81 x82 x83 x84 x85 x86 x87 x88 x89 x90 x91 x92 x93 x94 x95 x96 x97 x98 x99 x100 x101 x102 x103 x104 : Value) (w0 : World) (T : Nat) (nm W1 : Bs) (d : Nat) (ver : Array Value) (listed : Array Bool) (a : Act) (w : World) : Prop :=
  ∃ (b0 b1 b2 b3 b4 b5 b6 b7 b8 b9 b10 b11 b12 b13 b14 : Bool) (v105 v106 v107 v108 v109 v110 v111 v112 v113 v114 v3 : Value), listed = #[b0, b1, b2, b3, b4, b5, b6, b7, b8, b9, b10, b11, b12, b13, b14] ∧ a = ⟨#[x0, x1, x2, v3, x4, x5, x6, x7, x8, x9, x10, x11, x12, x13, x14, x15, x16, x17, x18, x19, x20, x21, x22, x23, x24, x25, x26, x27, x28, x29, x30, x31, x32, x33, x34, x35, x36, x37, x38, x39, x40, x41, x42, x43, x44, x45, x46, x47, x48, x49, x50, x51, x52, x53, x54, x55, x56, x57, x58, x59, x60, x61, x62, x63, x64, x65, x66, x67, x68, x69, x70, x71, x72, x73, x74, x75, x76, x77, x78, x79, x80, x81, x82, x83, x84, x85, x86, x87, x88, x89, x90, x91, x92, x93, x94, x95, x96, x97, x98, x99, x100, x101, x102, x103, x104, v105, v106, v107, v108, v109, v110, v111, v112, v113, v114], []⟩ ∧ FM w0 T nm W1 d ver b0 b1 b2 b3 b4 b5 b6 b7 b8 b9 b10 b11 b12 b13 b14 v105 v106 v107 v108 v109 v110 v111 v112 v113 v114 v3 w

theorem JM.start (x0 x1 x2 x4 x5 x6 x7 x8 x9 x10 x11 x12 x13 x14 x15 x16 x17 x18 x19 x20 x21 x22 x23 x24 x25 x26 x27 x28 x29 x30 x31 x32 x33 x34 x35 x36 x37 x38 x39 x40 x41 x42 x43 x44 x45 x46 x47 x48 x49 x50 x51 x52 x53 x54 x55 x56 x57 x58 x59 x60 x61 x62 x63 x64 x65 x66 x67 x68 x69 x70 x71 x72 x73 x74 x75 x76 x77 x78 x79 x80 x81 x82 x83 x84 x85 x86 x87 x88 x89 x90 x91 x92 x93 x94 x95 x96 x97 x98 x99 x100 x101 x102 x103 x104 v3 v105 v106 v107 v108 v109 v110 v111 v112 v113 v114 : Value) (w0 : World) (T : Nat) (nm W1 : Bs) (d : Nat) (ver : Array Value) (w : World) (hV : Blk w T 28 ver) (hD : Blk w (T + 1 + 1) 33 #[.int .u8 d, .bool false, .string ⟨nm.toArray⟩, .string ⟨#[]⟩, .int .i64 0, .int .i64 0, .int .i64 0, .int .i64 0])
    (hS0 : Blk w (T + 1) 33 #[.int .u8 0, .bool false, .string ⟨#[]⟩, .string ⟨#[]⟩, .int .i64 0, .int .i64 0, .int .i64 0, .int .i64 0]) (hb : Below T w0 w) :
    JM x0 x1 x2 x4 x5 x6 x7 x8 x9 x10 x11 x12 x13 x14 x15 x16 x17 x18 x19 x20 x21 x22 x23 x24 x25 x26 x27 x28 x29 x30 x31 x32 x33 x34 x35 x36 x37 x38 x39 x40 x41 x42 x43 x44 x45 x46 x47 x48 x49 x50 x51 x52 x53 x54 x55 x56 x57 x58 x59 x60 x61 x62 x63 x64 x65 x66 x67 x68 x69 x70 x71 x72 x73 x74 x75 x76 x77 x78 x79 x80 x81 x82 x83 x84 x85 x86 x87 x88 x89 x90 x91 x92 x93 x94 x95 x96 x97 x98 x99 x100 x101 x102 x103 x104 w0 T nm W1 d ver (Array.replicate 15 false) ⟨#[x0, x1, x2, v3, x4, x5, x6, x7, x8, x9, x10, x11, x12, x13, x14, x15, x16, x17, x18, x19, x20, x21, x22, x23, x24, x25, x26, x27, x28, x29, x30, x31, x32, x33, x34, x35, x36, x37, x38, x39, x40, x41, x42, x43, x44, x45, x46, x47, x48, x49, x50, x51, x52, x53, x54, x55, x56, x57, x58, x59, x60, x61, x62, x63, x64, x65, x66, x67, x68, x69, x70, x71, x72, x73, x74, x75, x76, x77, x78, x79, x80, x81, x82, x83, x84, x85, x86, x87, x88, x89, x90, x91, x92, x93, x94, x95, x96, x97, x98, x99, x100, x101, x102, x103, x104, v105, v106, v107, v108, v109, v110, v111, v112, v113, v114], []⟩ w := by
  refine ⟨false, false, false, false, false, false, false, false, false, false, false, false, false, false, false, v105, v106, v107, v108, v109, v110, v111, v112, v113, v114, v3, rfl, rfl, ?_⟩
  constructor <;> first | exact hV | exact hD | exact ⟨_, hS0, rfl⟩ | exact hb | (intro h; cases h)

/-- What a step leaves of the blocks. -/
structure StepW (T : Nat) (w w' : World) : Prop where
  size : w.heap.size ≤ w'.heap.size
  block : ∀ i, i < T + 3 → i < w.heap.size → w'.heap[i]? = w.heap[i]?
  os : w'.os = w.os
  tape : w'.tape = w.tape
  output : w'.output = w.output

theorem StepW.blk {T : Nat} {w w' : World} (h : StepW T w w') {g : Nat} {t : TypeId} {cs : Array Value} (hb : Blk w g t cs) (hg : g < T + 3) : Blk w' g t cs := (h.block g hg hb.lt).trans hb
theorem StepW.below {T : Nat} {w0 w w' : World} (h : StepW T w w') (hb : Below T w0 w) (hT : T ≤ w0.heap.size) : Below T w0 w' :=
  ⟨h.os.trans hb.os, h.tape.trans hb.tape, h.output.trans hb.output, Nat.le_trans hb.size h.size, fun k hk => (h.block k (by omega) (by have := hb.size; omega)).trans (hb.block k hk)⟩
theorem StepW.grown {T g : Nat} {w w' : World} (h : w.grownBy w' (some g)) (hg : T + 3 ≤ g) : StepW T w w' :=
  ⟨h.size, fun i hi hlt => h.block i hlt (by intro e; injection e with e; omega), h.os, h.tape, h.output⟩
theorem StepW.of_below {T : Nat} {w w' : World} (h : Below w.heap.size w w') : StepW T w w' :=
  ⟨h.size, fun i _ hlt => h.block i hlt, h.os, h.tape, h.output⟩
theorem set8 {T D : Nat} (v0 v1 v2 v3 v4 v5 v6 v7 : Value) (w : World) :
    (∀ i, i ≠ D → ((((((((w.setCell ⟨D, 0, none⟩ v0).setCell ⟨D, 1, none⟩ v1).setCell ⟨D, 2, none⟩ v2).setCell ⟨D, 3, none⟩ v3).setCell ⟨D, 4, none⟩ v4).setCell ⟨D, 5, none⟩ v5).setCell ⟨D, 6, none⟩ v6).setCell ⟨D, 7, none⟩ v7).heap[i]? = w.heap[i]?) ∧
    (∀ w0, Below T w0 w → T ≤ D → Below T w0 ((((((((w.setCell ⟨D, 0, none⟩ v0).setCell ⟨D, 1, none⟩ v1).setCell ⟨D, 2, none⟩ v2).setCell ⟨D, 3, none⟩ v3).setCell ⟨D, 4, none⟩ v4).setCell ⟨D, 5, none⟩ v5).setCell ⟨D, 6, none⟩ v6).setCell ⟨D, 7, none⟩ v7)) :=
  ⟨fun i hi => (Below.heap_setCell _ ⟨D, 7, none⟩ _ _ hi).trans ((Below.heap_setCell _ ⟨D, 6, none⟩ _ _ hi).trans ((Below.heap_setCell _ ⟨D, 5, none⟩ _ _ hi).trans ((Below.heap_setCell _ ⟨D, 4, none⟩ _ _ hi).trans ((Below.heap_setCell _ ⟨D, 3, none⟩ _ _ hi).trans ((Below.heap_setCell _ ⟨D, 2, none⟩ _ _ hi).trans ((Below.heap_setCell _ ⟨D, 1, none⟩ _ _ hi).trans (Below.heap_setCell _ ⟨D, 0, none⟩ _ _ hi))))))),
   fun _ h hD => below8 v0 v1 v2 v3 v4 v5 v6 v7 h hD⟩
theorem ready_nil {md : Region.Mode} {ops : Array Oper} {listed : Array Bool} (h : Region.ready md ops listed = []) {i : Nat} {o : Oper} (ho : ops[i]? = some o)
    (hd : (o.after.toList.all fun e => !Region.binds md e || listed.getD e.on false) = true) : listed.getD i true = true := by
  cases hl : listed.getD i true with
  | true => rfl
  | false =>
    exfalso
    have : i ∈ Region.ready md ops listed := by
      unfold Region.ready
      refine List.mem_filter.2 ⟨List.mem_range.2 (Array.getElem?_eq_some_iff.1 ho).1, ?_⟩
      rw [hl, ho]
      simp only [Option.map_some, Option.getD_some, Bool.not_false, Bool.true_and]
      rw [← Array.all_toList]
      exact hd
    rw [h] at this
    cases this
theorem StepW.refl (T : Nat) (w : World) : StepW T w w := .of_below (Below.refl _ w)
end Go.Proofs.YtadncponjpdcmaaGreatDoor

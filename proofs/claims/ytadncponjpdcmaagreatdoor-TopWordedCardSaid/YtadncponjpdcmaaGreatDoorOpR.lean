/-
  The coder's op, reading: walked for each kind.
-/
import Derived.Test.YtadncponjpdcmaaGreatDoorOpW4
namespace Go.Proofs.YtadncponjpdcmaaGreatDoor
open Go.RowKit

theorem op_write (base K D : Nat) (o : OpL) (w : World) (h : WrC base K [] false w) (hD : Blk w D 33 (opCells o)) (hdk : D < base ∧ D ≠ K ∧ 8 < base ∧ 8 ≤ K) (hd : 1 ≤ o.d ∧ o.d ≤ 7) (ho : OpOk o) (hG : Glob w) :
    Calls Tryz.prog 10 #[.pointer (some ⟨K, 0, none⟩), .pointer (some ⟨D, 0, none⟩)] w (OpWPost base K o w) := by
  obtain ⟨d, df, nm, tx, n0, n1, n2, n3⟩ := o
  match d, hd with
  | 1, _ => exact op_w1 base K D df nm tx n0 n1 n2 n3 w h hD hdk ho hG
  | 2, _ => exact op_w2 base K D df nm tx n0 n1 n2 n3 w h hD hdk ho hG
  | 3, _ => exact op_w3 base K D df nm tx n0 n1 n2 n3 w h hD hdk ho hG
  | 4, _ => exact op_w4 base K D df nm tx n0 n1 n2 n3 w h hD hdk ho hG
  | 5, _ => exact op_w5 base K D df nm tx n0 n1 n2 n3 w h hD hdk ho hG
  | 6, _ => exact op_w6 base K D df nm tx n0 n1 n2 n3 w h hD hdk ho hG
  | 7, _ => exact op_w7 base K D df nm tx n0 n1 n2 n3 w h hD hdk ho hG
  | 0, h => exact absurd h (by simp)
  | n + 8, h => exact absurd h.2 (by simp)

/-- What is read, of words: the op, the words that are left, and whether they are bad. -/
def readOp (ws : List Bs) : OpL × (List Bs × Bool) :=
  let r := stepR doW doR (ws, false) 0
  match r.2 with
  | 1 =>
    let b := stepR defW defR r.1 false
    let t := stepR wordL textR b.1 []
    (⟨1, b.2, [], t.2, 0, 0, 0, 0⟩, t.1)
  | 2 =>
    let b := stepR defW defR r.1 false
    let t := stepR wordL textR b.1 []
    (⟨2, b.2, t.2, [], 0, 0, 0, 0⟩, t.1)
  | 3 =>
    let t := stepR wordL textR r.1 []
    (⟨3, false, t.2, [], 0, 0, 0, 0⟩, t.1)
  | 4 =>
    let a := stepR Lib.itoa numR r.1 0
    let b := stepR Lib.itoa numR a.1 0
    let c := stepR Lib.itoa numR b.1 0
    let d := stepR Lib.itoa numR c.1 0
    let t := stepR wordL textR d.1 []
    (⟨4, false, [], t.2, a.2, b.2, c.2, d.2⟩, t.1)
  | 5 =>
    let t := stepR wordL textR r.1 []
    (⟨5, false, t.2, [], 0, 0, 0, 0⟩, t.1)
  | 6 =>
    let t := stepR wordL textR r.1 []
    (⟨6, false, t.2, [], 0, 0, 0, 0⟩, t.1)
  | 7 =>
    let t := stepR wordL textR r.1 []
    (⟨7, false, [], t.2, 0, 0, 0, 0⟩, t.1)
  | d => (⟨d, false, [], [], 0, 0, 0, 0⟩, (r.1.1, true))

/-- What stands while an op is read. -/
structure StR (B K D : Nat) (st : List Bs × Bool) (cs : Array Value) (w w' : World) : Prop where
  rd : RdC B K st.1 st.2 w'
  blk : Blk w' D 33 cs
  glob : Glob w'
  keep : Keep (fun i => i ≠ K ∧ i ≠ D) w w'
  short : ∀ s ∈ st.1, s.length ≤ 1000000000
  dk : B ≤ D ∧ D ≠ K ∧ 8 ≤ B ∧ B ≤ K

theorem stepR_mem {T : Type} {W : T → Bs} {R : Bs → T} {st : List Bs × Bool} {x : T} : ∀ s ∈ (stepR W R st x).1.1, s ∈ st.1 := by
  obtain ⟨ws, bad⟩ := st
  rcases step_cases ws bad with hb | ⟨s, r, rfl, rfl⟩
  · rw [stepR_no _ _ _ _ _ hb]; exact fun s h => h
  · rw [stepR_yes]; exact fun t h => by simp; exact .inr h

theorem StR.start {B K D : Nat} {st : List Bs × Bool} {cs : Array Value} {w w' : World} (h : RdC B K st.1 st.2 w) (hD : Blk w D 33 cs) (hG : Glob w) (hs : ∀ s ∈ st.1, s.length ≤ 1000000000)
    (hdk : B ≤ D ∧ D ≠ K ∧ 8 ≤ B ∧ B ≤ K) (hb : Below w.heap.size w w') : StR B K D st cs w w' :=
  ⟨h.below hb, hD.below hb hD.lt, hG.below hb hG.size, Keep.of_below hb (fun _ _ h => h), hs, hdk⟩

theorem StR.next {B K D : Nat} {st st' : List Bs × Bool} {cs cs' : Array Value} {w w1 w2 : World} (h : StR B K D st cs w w1) (hr : Round B K D st' cs' w1 w2) (hm : ∀ s ∈ st'.1, s ∈ st.1) :
    StR B K D st' cs' w w2 :=
  ⟨hr.1, hr.2.1, h.glob.keep hr.2.2 (by have := h.dk; intro i hi; omega), h.keep.trans hr.2.2, fun s hs => h.short s (hm s hs), h.dk⟩

section
variable {B K D off : Nat} {st : List Bs × Bool} {cs : Array Value} {w w1 : World}
theorem sr_str {x : Bs} (h : StR B K D st cs w w1) (hx : cs[off]? = some (str x)) (hxs : x.length ≤ 1000000000) :
    Calls Tryz.prog 33 #[.pointer (some ⟨K, 0, none⟩), .pointer (some ⟨D, off, none⟩)] w1 fun e w2 => e = .returned (.tuple #[]) ∧ (StR B K D (stepR wordL textR st x).1 (cs.setIfInBounds off (str (stepR wordL textR st x).2)) w w2 ∧ Keep (fun i => i ≠ K ∧ i ≠ D) w1 w2) := by
  refine (r_str B K D off st cs x w1 h.rd h.blk h.dk.1 h.dk.2.1 hx h.short hxs h.glob h.dk.2.2.1).mono ?_
  rintro e w2 ⟨rfl, h1⟩
  exact ⟨rfl, h.next h1 stepR_mem, h1.2.2⟩
theorem sr_bool {x : Bool} (h : StR B K D st cs w w1) (hx : cs[off]? = some (.bool x)) :
    Calls Tryz.prog 32 #[.pointer (some ⟨K, 0, none⟩), .pointer (some ⟨D, off, none⟩)] w1 fun e w2 => e = .returned (.tuple #[]) ∧ (StR B K D (stepR defW defR st x).1 (cs.setIfInBounds off (.bool (stepR defW defR st x).2)) w w2 ∧ Keep (fun i => i ≠ K ∧ i ≠ D) w1 w2) := by
  refine (r_bool B K D off st cs x w1 h.rd h.blk h.dk.1 h.dk.2.1 hx h.short h.glob h.dk.2.2.1).mono ?_
  rintro e w2 ⟨rfl, h1⟩
  exact ⟨rfl, h.next h1 stepR_mem, h1.2.2⟩
theorem sr_int {x : Int} (h : StR B K D st cs w w1) (hx : cs[off]? = some (.int .i64 x)) (hx0 : int64 x) :
    Calls Tryz.prog 34 #[.pointer (some ⟨K, 0, none⟩), .pointer (some ⟨D, off, none⟩)] w1 fun e w2 => e = .returned (.tuple #[]) ∧ (StR B K D (stepR Lib.itoa numR st x).1 (cs.setIfInBounds off (.int .i64 (stepR Lib.itoa numR st x).2)) w w2 ∧ Keep (fun i => i ≠ K ∧ i ≠ D) w1 w2) := by
  refine (r_int B K D off st cs x w1 h.rd h.blk h.dk.1 h.dk.2.1 hx h.short hx0.1 hx0.2 h.glob h.dk.2.2.1).mono ?_
  rintro e w2 ⟨rfl, h1⟩
  exact ⟨rfl, h.next h1 stepR_mem, h1.2.2⟩
theorem sr_do {V N x : Nat} (h : StR B K D st cs w w1) (hx : cs[off]? = some (.int .u8 x)) (hx8 : x < 256) (hN : Names V N w1) (hVN : V ≠ K ∧ N ≠ K ∧ V ≠ D ∧ N ≠ D) :
    Calls Tryz.prog 28 #[.pointer (some ⟨K, 0, none⟩), .pointer (some ⟨D, off, none⟩), .func (.func 29) #[] #[.pointer (some ⟨V, 0, none⟩)], .func (.func 30) #[] #[.pointer (some ⟨V, 0, none⟩)]] w1 fun e w2 => e = .returned (.tuple #[]) ∧ StR B K D (stepR doW doR st x).1 (cs.setIfInBounds off (.int .u8 ((stepR doW doR st x).2 : Nat))) w w2 := by
  refine (r_do B K D off st cs x w1 h.rd h.blk h.dk.1 h.dk.2.1 hx h.short hx8 h.glob h.dk.2.2.1 hN hVN).mono ?_
  rintro e w2 ⟨rfl, h1⟩
  exact ⟨rfl, h.next h1 stepR_mem⟩
end

/-- The op that is read, all of it. -/
def OpRPost (B K D : Nat) (r : OpL × (List Bs × Bool)) (w : World) (e : Ending) (w' : World) : Prop :=
  e = .returned (.tuple #[]) ∧ RdC B K r.2.1 r.2.2 w' ∧ Blk w' D 33 (opCells r.1) ∧ Keep (fun i => i ≠ K ∧ i ≠ D) w w'

def zeroCellsOf : Array Value := #[.int .u8 0, .bool false, str [], str [], .int .i64 0, .int .i64 0, .int .i64 0, .int .i64 0]

theorem int64_zero : int64 0 := by unfold int64; omega

set_option maxHeartbeats 2000000 in
set_option maxRecDepth 100000 in
theorem op_r1 (B K D : Nat) (ws : List Bs) (w : World) (h : RdC B K ws false w) (hD : Blk w D 33 zeroCellsOf)
    (hdk : B ≤ D ∧ D ≠ K ∧ 8 ≤ B ∧ B ≤ K) (hs : ∀ s ∈ ws, s.length ≤ 1000000000) (hG : Glob w) (R : OpL × (List Bs × Bool)) (hR : readOp ws = R) (hd : (stepR doW doR (ws, false) 0).2 = 1) :
    Calls Tryz.prog 10 #[.pointer (some ⟨K, 0, none⟩), .pointer (some ⟨D, 0, none⟩)] w (OpRPost B K D R w) := by
  have hN := names_alloc w
  have hS := StR.start (st := (ws, false)) (w' := (w.alloc (.cells (nameL.map str).toArray 9)).alloc (.cells #[.slice (some ⟨w.heap.size, 0, none⟩) 8 8] 29)) h hD hG hs hdk
    (((Below.refl _ w).alloc (Nat.le_refl _) _).alloc (by simp) _)
  have hKl : K < w.heap.size := by obtain ⟨_, A, n, c, hk, _⟩ := h; exact hk.lt
  have hDl : D < w.heap.size := hD.lt
  have hVN : w.heap.size + 1 ≠ K ∧ w.heap.size ≠ K ∧ w.heap.size + 1 ≠ D ∧ w.heap.size ≠ D := by omega
  rw [names_lit] at hN hS
  unfold readOp at hR
  simp only [hd] at hR
  have HR := Lib.hid hR
  have HDD := Lib.hid hd
  have HN := Lib.hid hN
  have HS := Lib.hid hS
  have HVN := Lib.hid hVN
  clear hN h hG hD hS hdk hs hR hd hKl hDl hVN
  go_enter Tryz.func10, Tryz.ntmps10
  go_wp2_with fail
  refine (sr_do HS.out (x := 0) rfl (by decide) HN.out HVN.out).mono ?_
  rintro e w1 ⟨rfl, h1⟩
  rw [HDD.out] at h1
  generalize (stepR doW doR (ws, false) 0).1 = st at h1 HR
  have d1 : w1.cell? ⟨D, 0, none⟩ = some (.int .u8 1) := h1.blk.cell 0
  have H1 := Lib.hid h1
  clear h1
  go_wp2_with fail
  refine (sr_bool H1.out rfl).mono ?_
  rintro e w2 ⟨rfl, h2, _⟩
  have H2 := Lib.hid h2
  clear h2
  go_wp2_with fail
  refine (sr_str H2.out rfl (Nat.zero_le _)).mono ?_
  rintro e w3 ⟨rfl, h3, _⟩
  have H3 := Lib.hid h3
  clear h3
  go_wp2
  go_end0
  have hR := HR.out
  subst hR
  exact ⟨rfl, H3.out.rd, H3.out.blk, H3.out.keep⟩

set_option maxHeartbeats 2000000 in
set_option maxRecDepth 100000 in
theorem op_r2 (B K D : Nat) (ws : List Bs) (w : World) (h : RdC B K ws false w) (hD : Blk w D 33 zeroCellsOf)
    (hdk : B ≤ D ∧ D ≠ K ∧ 8 ≤ B ∧ B ≤ K) (hs : ∀ s ∈ ws, s.length ≤ 1000000000) (hG : Glob w) (R : OpL × (List Bs × Bool)) (hR : readOp ws = R) (hd : (stepR doW doR (ws, false) 0).2 = 2) :
    Calls Tryz.prog 10 #[.pointer (some ⟨K, 0, none⟩), .pointer (some ⟨D, 0, none⟩)] w (OpRPost B K D R w) := by
  have hN := names_alloc w
  have hS := StR.start (st := (ws, false)) (w' := (w.alloc (.cells (nameL.map str).toArray 9)).alloc (.cells #[.slice (some ⟨w.heap.size, 0, none⟩) 8 8] 29)) h hD hG hs hdk
    (((Below.refl _ w).alloc (Nat.le_refl _) _).alloc (by simp) _)
  have hKl : K < w.heap.size := by obtain ⟨_, A, n, c, hk, _⟩ := h; exact hk.lt
  have hDl : D < w.heap.size := hD.lt
  have hVN : w.heap.size + 1 ≠ K ∧ w.heap.size ≠ K ∧ w.heap.size + 1 ≠ D ∧ w.heap.size ≠ D := by omega
  rw [names_lit] at hN hS
  unfold readOp at hR
  simp only [hd] at hR
  have HR := Lib.hid hR
  have HDD := Lib.hid hd
  have HN := Lib.hid hN
  have HS := Lib.hid hS
  have HVN := Lib.hid hVN
  clear hN h hG hD hS hdk hs hR hd hKl hDl hVN
  go_enter Tryz.func10, Tryz.ntmps10
  go_wp2_with fail
  refine (sr_do HS.out (x := 0) rfl (by decide) HN.out HVN.out).mono ?_
  rintro e w1 ⟨rfl, h1⟩
  rw [HDD.out] at h1
  generalize (stepR doW doR (ws, false) 0).1 = st at h1 HR
  have d1 : w1.cell? ⟨D, 0, none⟩ = some (.int .u8 2) := h1.blk.cell 0
  have H1 := Lib.hid h1
  clear h1
  go_wp2_with fail
  refine (sr_bool H1.out rfl).mono ?_
  rintro e w2 ⟨rfl, h2, _⟩
  have H2 := Lib.hid h2
  clear h2
  go_wp2_with fail
  refine (sr_str H2.out rfl (Nat.zero_le _)).mono ?_
  rintro e w3 ⟨rfl, h3, _⟩
  have H3 := Lib.hid h3
  clear h3
  go_wp2
  go_end0
  have hR := HR.out
  subst hR
  exact ⟨rfl, H3.out.rd, H3.out.blk, H3.out.keep⟩

set_option maxHeartbeats 2000000 in
set_option maxRecDepth 100000 in
theorem op_r3 (B K D : Nat) (ws : List Bs) (w : World) (h : RdC B K ws false w) (hD : Blk w D 33 zeroCellsOf)
    (hdk : B ≤ D ∧ D ≠ K ∧ 8 ≤ B ∧ B ≤ K) (hs : ∀ s ∈ ws, s.length ≤ 1000000000) (hG : Glob w) (R : OpL × (List Bs × Bool)) (hR : readOp ws = R) (hd : (stepR doW doR (ws, false) 0).2 = 3) :
    Calls Tryz.prog 10 #[.pointer (some ⟨K, 0, none⟩), .pointer (some ⟨D, 0, none⟩)] w (OpRPost B K D R w) := by
  have hN := names_alloc w
  have hS := StR.start (st := (ws, false)) (w' := (w.alloc (.cells (nameL.map str).toArray 9)).alloc (.cells #[.slice (some ⟨w.heap.size, 0, none⟩) 8 8] 29)) h hD hG hs hdk
    (((Below.refl _ w).alloc (Nat.le_refl _) _).alloc (by simp) _)
  have hKl : K < w.heap.size := by obtain ⟨_, A, n, c, hk, _⟩ := h; exact hk.lt
  have hDl : D < w.heap.size := hD.lt
  have hVN : w.heap.size + 1 ≠ K ∧ w.heap.size ≠ K ∧ w.heap.size + 1 ≠ D ∧ w.heap.size ≠ D := by omega
  rw [names_lit] at hN hS
  unfold readOp at hR
  simp only [hd] at hR
  have HR := Lib.hid hR
  have HDD := Lib.hid hd
  have HN := Lib.hid hN
  have HS := Lib.hid hS
  have HVN := Lib.hid hVN
  clear hN h hG hD hS hdk hs hR hd hKl hDl hVN
  go_enter Tryz.func10, Tryz.ntmps10
  go_wp2_with fail
  refine (sr_do HS.out (x := 0) rfl (by decide) HN.out HVN.out).mono ?_
  rintro e w1 ⟨rfl, h1⟩
  rw [HDD.out] at h1
  generalize (stepR doW doR (ws, false) 0).1 = st at h1 HR
  have d1 : w1.cell? ⟨D, 0, none⟩ = some (.int .u8 3) := h1.blk.cell 0
  have H1 := Lib.hid h1
  clear h1
  go_wp2_with fail
  refine (sr_str H1.out rfl (Nat.zero_le _)).mono ?_
  rintro e w2 ⟨rfl, h2, _⟩
  have H2 := Lib.hid h2
  clear h2
  go_wp2
  go_end0
  have hR := HR.out
  subst hR
  exact ⟨rfl, H2.out.rd, H2.out.blk, H2.out.keep⟩

set_option maxHeartbeats 2000000 in
set_option maxRecDepth 100000 in
theorem op_r5 (B K D : Nat) (ws : List Bs) (w : World) (h : RdC B K ws false w) (hD : Blk w D 33 zeroCellsOf)
    (hdk : B ≤ D ∧ D ≠ K ∧ 8 ≤ B ∧ B ≤ K) (hs : ∀ s ∈ ws, s.length ≤ 1000000000) (hG : Glob w) (R : OpL × (List Bs × Bool)) (hR : readOp ws = R) (hd : (stepR doW doR (ws, false) 0).2 = 5) :
    Calls Tryz.prog 10 #[.pointer (some ⟨K, 0, none⟩), .pointer (some ⟨D, 0, none⟩)] w (OpRPost B K D R w) := by
  have hN := names_alloc w
  have hS := StR.start (st := (ws, false)) (w' := (w.alloc (.cells (nameL.map str).toArray 9)).alloc (.cells #[.slice (some ⟨w.heap.size, 0, none⟩) 8 8] 29)) h hD hG hs hdk
    (((Below.refl _ w).alloc (Nat.le_refl _) _).alloc (by simp) _)
  have hKl : K < w.heap.size := by obtain ⟨_, A, n, c, hk, _⟩ := h; exact hk.lt
  have hDl : D < w.heap.size := hD.lt
  have hVN : w.heap.size + 1 ≠ K ∧ w.heap.size ≠ K ∧ w.heap.size + 1 ≠ D ∧ w.heap.size ≠ D := by omega
  rw [names_lit] at hN hS
  unfold readOp at hR
  simp only [hd] at hR
  have HR := Lib.hid hR
  have HDD := Lib.hid hd
  have HN := Lib.hid hN
  have HS := Lib.hid hS
  have HVN := Lib.hid hVN
  clear hN h hG hD hS hdk hs hR hd hKl hDl hVN
  go_enter Tryz.func10, Tryz.ntmps10
  go_wp2_with fail
  refine (sr_do HS.out (x := 0) rfl (by decide) HN.out HVN.out).mono ?_
  rintro e w1 ⟨rfl, h1⟩
  rw [HDD.out] at h1
  generalize (stepR doW doR (ws, false) 0).1 = st at h1 HR
  have d1 : w1.cell? ⟨D, 0, none⟩ = some (.int .u8 5) := h1.blk.cell 0
  have H1 := Lib.hid h1
  clear h1
  go_wp2_with fail
  refine (sr_str H1.out rfl (Nat.zero_le _)).mono ?_
  rintro e w2 ⟨rfl, h2, _⟩
  have H2 := Lib.hid h2
  clear h2
  go_wp2
  go_end0
  have hR := HR.out
  subst hR
  exact ⟨rfl, H2.out.rd, H2.out.blk, H2.out.keep⟩

set_option maxHeartbeats 2000000 in
set_option maxRecDepth 100000 in
theorem op_r6 (B K D : Nat) (ws : List Bs) (w : World) (h : RdC B K ws false w) (hD : Blk w D 33 zeroCellsOf)
    (hdk : B ≤ D ∧ D ≠ K ∧ 8 ≤ B ∧ B ≤ K) (hs : ∀ s ∈ ws, s.length ≤ 1000000000) (hG : Glob w) (R : OpL × (List Bs × Bool)) (hR : readOp ws = R) (hd : (stepR doW doR (ws, false) 0).2 = 6) :
    Calls Tryz.prog 10 #[.pointer (some ⟨K, 0, none⟩), .pointer (some ⟨D, 0, none⟩)] w (OpRPost B K D R w) := by
  have hN := names_alloc w
  have hS := StR.start (st := (ws, false)) (w' := (w.alloc (.cells (nameL.map str).toArray 9)).alloc (.cells #[.slice (some ⟨w.heap.size, 0, none⟩) 8 8] 29)) h hD hG hs hdk
    (((Below.refl _ w).alloc (Nat.le_refl _) _).alloc (by simp) _)
  have hKl : K < w.heap.size := by obtain ⟨_, A, n, c, hk, _⟩ := h; exact hk.lt
  have hDl : D < w.heap.size := hD.lt
  have hVN : w.heap.size + 1 ≠ K ∧ w.heap.size ≠ K ∧ w.heap.size + 1 ≠ D ∧ w.heap.size ≠ D := by omega
  rw [names_lit] at hN hS
  unfold readOp at hR
  simp only [hd] at hR
  have HR := Lib.hid hR
  have HDD := Lib.hid hd
  have HN := Lib.hid hN
  have HS := Lib.hid hS
  have HVN := Lib.hid hVN
  clear hN h hG hD hS hdk hs hR hd hKl hDl hVN
  go_enter Tryz.func10, Tryz.ntmps10
  go_wp2_with fail
  refine (sr_do HS.out (x := 0) rfl (by decide) HN.out HVN.out).mono ?_
  rintro e w1 ⟨rfl, h1⟩
  rw [HDD.out] at h1
  generalize (stepR doW doR (ws, false) 0).1 = st at h1 HR
  have d1 : w1.cell? ⟨D, 0, none⟩ = some (.int .u8 6) := h1.blk.cell 0
  have H1 := Lib.hid h1
  clear h1
  go_wp2_with fail
  refine (sr_str H1.out rfl (Nat.zero_le _)).mono ?_
  rintro e w2 ⟨rfl, h2, _⟩
  have H2 := Lib.hid h2
  clear h2
  go_wp2
  go_end0
  have hR := HR.out
  subst hR
  exact ⟨rfl, H2.out.rd, H2.out.blk, H2.out.keep⟩

set_option maxHeartbeats 2000000 in
set_option maxRecDepth 100000 in
theorem op_r7 (B K D : Nat) (ws : List Bs) (w : World) (h : RdC B K ws false w) (hD : Blk w D 33 zeroCellsOf)
    (hdk : B ≤ D ∧ D ≠ K ∧ 8 ≤ B ∧ B ≤ K) (hs : ∀ s ∈ ws, s.length ≤ 1000000000) (hG : Glob w) (R : OpL × (List Bs × Bool)) (hR : readOp ws = R) (hd : (stepR doW doR (ws, false) 0).2 = 7) :
    Calls Tryz.prog 10 #[.pointer (some ⟨K, 0, none⟩), .pointer (some ⟨D, 0, none⟩)] w (OpRPost B K D R w) := by
  have hN := names_alloc w
  have hS := StR.start (st := (ws, false)) (w' := (w.alloc (.cells (nameL.map str).toArray 9)).alloc (.cells #[.slice (some ⟨w.heap.size, 0, none⟩) 8 8] 29)) h hD hG hs hdk
    (((Below.refl _ w).alloc (Nat.le_refl _) _).alloc (by simp) _)
  have hKl : K < w.heap.size := by obtain ⟨_, A, n, c, hk, _⟩ := h; exact hk.lt
  have hDl : D < w.heap.size := hD.lt
  have hVN : w.heap.size + 1 ≠ K ∧ w.heap.size ≠ K ∧ w.heap.size + 1 ≠ D ∧ w.heap.size ≠ D := by omega
  rw [names_lit] at hN hS
  unfold readOp at hR
  simp only [hd] at hR
  have HR := Lib.hid hR
  have HDD := Lib.hid hd
  have HN := Lib.hid hN
  have HS := Lib.hid hS
  have HVN := Lib.hid hVN
  clear hN h hG hD hS hdk hs hR hd hKl hDl hVN
  go_enter Tryz.func10, Tryz.ntmps10
  go_wp2_with fail
  refine (sr_do HS.out (x := 0) rfl (by decide) HN.out HVN.out).mono ?_
  rintro e w1 ⟨rfl, h1⟩
  rw [HDD.out] at h1
  generalize (stepR doW doR (ws, false) 0).1 = st at h1 HR
  have d1 : w1.cell? ⟨D, 0, none⟩ = some (.int .u8 7) := h1.blk.cell 0
  have H1 := Lib.hid h1
  clear h1
  go_wp2_with fail
  refine (sr_str H1.out rfl (Nat.zero_le _)).mono ?_
  rintro e w2 ⟨rfl, h2, _⟩
  have H2 := Lib.hid h2
  clear h2
  go_wp2
  go_end0
  have hR := HR.out
  subst hR
  exact ⟨rfl, H2.out.rd, H2.out.blk, H2.out.keep⟩

end Go.Proofs.YtadncponjpdcmaaGreatDoor

/-
  strings.ToValidUTF8 with an empty replacement: what is valid comes back; what is not comes back shorter.
-/
import Derived.Test.YtadncponjpdcmaaGreatDoorWord
import Derived.Shelf.Strings.BuilderCap
import Derived.Lib.RuneCountTail
namespace Go.Proofs.YtadncponjpdcmaaGreatDoor
open Go.RowKit

theorem validD_end (s : ByteArray) : Lib.validD (s.data.toList.drop s.size) = true := by
  rw [List.drop_of_length_le (by simp)]; rfl

/-- The step of a range: what 'validD' becomes. -/
theorem valid_next (s : ByteArray) (pos : Nat) (hp : pos < s.size) :
    1 ≤ (Utf8.decode s pos).2 ∧ pos + (Utf8.decode s pos).2 ≤ s.size ∧
    Lib.validD (s.data.toList.drop pos) = if (Utf8.decode s pos).1 = 65533 ∧ (Utf8.decode s pos).2 = 1 then false else Lib.validD (s.data.toList.drop (pos + (Utf8.decode s pos).2)) := by
  have hne := drop_ne hp
  have hdd := Lib.decodeL_drop s pos
  have hw := Lib.decodeL_width (s.data.toList.drop pos)
  have hle := Lib.decodeL_le (s.data.toList.drop pos) hne
  have hst := Lib.validD_step _ hne
  rw [hdd] at hw hle hst
  rw [List.drop_drop] at hst
  refine ⟨hw, ?_, hst⟩
  rw [List.length_drop] at hle; simp at hle; omega

theorem decode_tail (s : ByteArray) (pos : Nat) (hp : pos < s.size) (w : World) (hT : Lib.Utf8Tabs 1 2 w) :
    Calls Tryz.prog 52 #[.string (s.extract pos s.size)] w fun e w' => e = .returned (.tuple #[.int .i32 (Utf8.decode s pos).1, .int .i64 (Utf8.decode s pos).2]) ∧ Below w.heap.size w w' := by
  have h := Tryz.utf8_DecodeRuneInString (s.extract pos s.size) w hT
  have hz := Lib.tail_size s pos
  have hd := Lib.tail_decode s pos 0
  have e : Lib.decodeGo (s.extract pos s.size) = Utf8.decode s pos := by
    unfold Lib.decodeGo
    rw [if_neg (by omega), hd]
    rfl
  rw [e] at h
  exact h

set_option maxHeartbeats 1000000 in
set_option maxRecDepth 100000 in
theorem tv_good (s : ByteArray) (w : World) (hs : s.size ≤ 1000000000) (hG : Glob w) (hv : Lib.validD s.data.toList = true) :
    Calls Tryz.prog 25 #[.string s, .string ⟨#[]⟩] w fun e w' => e = .returned (.string s) ∧ Below w.heap.size w w' := by
  have HG := Lib.hid hG
  have HV := Lib.hid hv
  have hit0 : ((w.alloc (Obj.cells #[Value.pointer none, Value.slice none 0 0] 80)).iter s 0).heap[w.heap.size + 1]? = some (.stringIter s 0) := by
    have := World.iter_heap (w.alloc (.cells #[.pointer none, .slice none 0 0] 80)) s 0
    simpa using this
  have hbl0 : Blk ((w.alloc (Obj.cells #[Value.pointer none, Value.slice none 0 0] 80)).iter s 0) w.heap.size 80 #[.pointer none, .slice none 0 0] := (Blk.new w 80 _).alloc _
  have hbw0 : Below w.heap.size w ((w.alloc (Obj.cells #[Value.pointer none, Value.slice none 0 0] 80)).iter s 0) :=
    ((Below.refl _ w).alloc (Nat.le_refl _) _).alloc (by simp) _
  have HI0 := Lib.hid hit0
  have HL0 := Lib.hid hbl0
  have HB0 := Lib.hid hbw0
  clear hit0 hbl0 hbw0 hG hv
  go_enter Tryz.func25, Tryz.ntmps25
  go_wp2
  go_loopw [0] (fun s0 wr => s0 = .string s ∧ ∃ pos : Nat, pos ≤ s.size ∧ Lib.validD (s.data.toList.drop pos) = true ∧ Blk wr w.heap.size 80 #[.pointer none, .slice none 0 0] ∧ wr.heap[w.heap.size + 1]? = some (.stringIter s pos) ∧ Below w.heap.size w wr) (fun _ wr => s.size - wr.iterPos (w.heap.size + 1))
  case atStart => exact ⟨rfl, 0, Nat.zero_le _, HV.out, HL0.out, HI0.out, HB0.out⟩
  case round =>
    obtain ⟨rfl, pos, hps, hva, hB, hit, hbw⟩ := hrel
    have hsz : w.heap.size + 1 < wr.heap.size := (Array.getElem?_eq_some_iff.1 hit).1
    by_cases hp : pos < s.size
    · have hnx : ∀ ty, (Instr.next (.pointer (some ⟨w.heap.size + 1, 0, none⟩)) true ty).run Tryz.prog wr = _ := fun ty => Lib.run_next_any_at wr (w.heap.size + 1) s pos ty hit hp
      obtain ⟨q1, q2, q3⟩ := valid_next s pos hp
      have hd1 := decode_le s pos
      have c52 := decode_tail s pos hp
      have hGr := (HG.out.below hbw HG.out.size)
      generalize hr : (Utf8.decode s pos).1 = r at hnx q3 hd1 c52
      generalize hwd : (Utf8.decode s pos).2 = wd at hnx q1 q2 q3 c52
      have hkp : Keep (fun i => i ≠ w.heap.size + 1) wr (wr.iterAt (w.heap.size + 1) s (pos + wd)) := keep_iterAt _ _ _ _
      have hB2 : Blk (wr.iterAt (w.heap.size + 1) s (pos + wd)) w.heap.size 80 _ := hB.kept hkp (by omega)
      have hit2 := Lib.iterAt_heap wr (w.heap.size + 1) s pos (pos + wd) hit
      have hbw2 := Lib.below_iterAt hbw (k := w.heap.size + 1) (by omega) s (pos + wd)
      have hG2 : Glob (wr.iterAt (w.heap.size + 1) s (pos + wd)) := HG.out.below hbw2 HG.out.size
      have hsz2 : w.heap.size + 2 ≤ (wr.iterAt (w.heap.size + 1) s (pos + wd)).heap.size := by rw [Lib.iterAt_size]; omega
      rw [hva] at q3
      have HC := Lib.hid c52
      have HIT := Lib.hid hit
      have HIT2 := Lib.hid hit2
      have HBW2 := Lib.hid hbw2
      have HB2 := Lib.hid hB2
      have HG2 := Lib.hid hG2
      by_cases h1 : (r : Int) = 65533
      · have h1' : r = 65533 := by omega
        have hw1 : ¬ (wd = 1) := fun e => by rw [if_pos ⟨h1', e⟩] at q3; cases q3
        rw [if_neg (by omega)] at q3
        have HQ3 := Lib.hid q3
        clear hr hwd hkp hB hit hbw hva q3 hit2 hbw2 hB2 c52 hGr hG2 h1
        subst h1'
        have hw2 : ((wd : Int) == 1) = false := by simp; omega
        go_wp2_with fail
        refine (HC.out _ HG2.out.tabs).mono ?_
        rintro e w3 ⟨rfl, hb3⟩
        go_wp2
        go_roundw
        case rel =>
          refine ⟨rfl, pos + wd, q2, HQ3.out.symm, HB2.out.below hb3 (by omega), ?_, HBW2.out.trans (hb3.mono (by omega))⟩
          rw [hb3.block _ (by omega)]; exact HIT2.out
        case measure =>
          have e2 : w3.heap[w.heap.size + 1]? = some (.stringIter s (pos + wd)) := by rw [hb3.block _ (by omega)]; exact HIT2.out
          simp only [World.iterPos, e2, HIT.out]
          omega
      · rw [if_neg (by omega)] at q3
        have HQ3 := Lib.hid q3
        have h2 : ((r : Int) != 65533) = true := by simpa using h1
        clear hr hwd hkp hB hit hbw hva q3 hit2 hbw2 hB2 c52 hGr hG2 h1
        go_wp2
        go_roundw
        case rel => exact ⟨rfl, pos + wd, q2, HQ3.out.symm, HB2.out, HIT2.out, HBW2.out⟩
        case measure =>
          simp only [World.iterPos, HIT2.out, HIT.out]
          omega
    · have hnx : ∀ ty, (Instr.next (.pointer (some ⟨w.heap.size + 1, 0, none⟩)) true ty).run Tryz.prog wr = _ := fun ty => Lib.run_next_end_at wr (w.heap.size + 1) s pos ty hit hp
      have c1 : wr.cell? ⟨w.heap.size, 1, none⟩ = some (.slice none 0 0) := hB.cell 1
      clear hit hB
      go_wp2
      go_ret
      exact ⟨rfl, hbw⟩
/-- A text comes back that is shorter than n bytes. -/
def ShortPost (n : Nat) (w : World) (e : Ending) (w' : World) : Prop := ∃ l : Bs, e = .returned (str l) ∧ l.length < n ∧ Below w.heap.size w w'

set_option maxHeartbeats 1000000 in
set_option maxRecDepth 100000 in
theorem tv_bad (s : ByteArray) (w : World) (hs : s.size ≤ 1000000000) (hG : Glob w) (hv : Lib.validD s.data.toList = false) :
    Calls Tryz.prog 25 #[.string s, .string ⟨#[]⟩] w fun e w' => ShortPost s.size w e w' := by
  have HG := Lib.hid hG
  have HV := Lib.hid hv
  have hit0 : ((w.alloc (Obj.cells #[Value.pointer none, Value.slice none 0 0] 80)).iter s 0).heap[w.heap.size + 1]? = some (.stringIter s 0) := by
    have := World.iter_heap (w.alloc (.cells #[.pointer none, .slice none 0 0] 80)) s 0
    simpa using this
  have hbl0 : Blk ((w.alloc (Obj.cells #[Value.pointer none, Value.slice none 0 0] 80)).iter s 0) w.heap.size 80 #[.pointer none, .slice none 0 0] := (Blk.new w 80 _).alloc _
  have hbw0 : Below w.heap.size w ((w.alloc (Obj.cells #[Value.pointer none, Value.slice none 0 0] 80)).iter s 0) :=
    ((Below.refl _ w).alloc (Nat.le_refl _) _).alloc (by simp) _
  have HI0 := Lib.hid hit0
  have HL0 := Lib.hid hbl0
  have HB0 := Lib.hid hbw0
  clear hit0 hbl0 hbw0 hG hv
  go_enter Tryz.func25, Tryz.ntmps25
  go_wp2
  go_loopw [0] (fun s0 wr => s0 = .string s ∧ ∃ pos : Nat, pos ≤ s.size ∧ Lib.validD (s.data.toList.drop pos) = false ∧ Blk wr w.heap.size 80 #[.pointer none, .slice none 0 0] ∧ wr.heap[w.heap.size + 1]? = some (.stringIter s pos) ∧ Below w.heap.size w wr) (fun _ wr => s.size - wr.iterPos (w.heap.size + 1))
  case atStart => exact ⟨rfl, 0, Nat.zero_le _, HV.out, HL0.out, HI0.out, HB0.out⟩
  case round =>
    obtain ⟨rfl, pos, hps, hva, hB, hit, hbw⟩ := hrel
    have hsz : w.heap.size + 1 < wr.heap.size := (Array.getElem?_eq_some_iff.1 hit).1
    by_cases hp : pos < s.size
    · have hnx : ∀ ty, (Instr.next (.pointer (some ⟨w.heap.size + 1, 0, none⟩)) true ty).run Tryz.prog wr = _ := fun ty => Lib.run_next_any_at wr (w.heap.size + 1) s pos ty hit hp
      obtain ⟨q1, q2, q3⟩ := valid_next s pos hp
      have hd1 := decode_le s pos
      have c52 := decode_tail s pos hp
      have hGr := (HG.out.below hbw HG.out.size)
      generalize hr : (Utf8.decode s pos).1 = r at hnx q3 hd1 c52
      generalize hwd : (Utf8.decode s pos).2 = wd at hnx q1 q2 q3 c52
      have hkp : Keep (fun i => i ≠ w.heap.size + 1) wr (wr.iterAt (w.heap.size + 1) s (pos + wd)) := keep_iterAt _ _ _ _
      have hB2 : Blk (wr.iterAt (w.heap.size + 1) s (pos + wd)) w.heap.size 80 _ := hB.kept hkp (by omega)
      have hit2 := Lib.iterAt_heap wr (w.heap.size + 1) s pos (pos + wd) hit
      have hbw2 := Lib.below_iterAt hbw (k := w.heap.size + 1) (by omega) s (pos + wd)
      have hG2 : Glob (wr.iterAt (w.heap.size + 1) s (pos + wd)) := HG.out.below hbw2 HG.out.size
      have hsz2 : w.heap.size + 2 ≤ (wr.iterAt (w.heap.size + 1) s (pos + wd)).heap.size := by rw [Lib.iterAt_size]; omega
      rw [hva] at q3
      have HC := Lib.hid c52
      have HIT := Lib.hid hit
      have HIT2 := Lib.hid hit2
      have HBW2 := Lib.hid hbw2
      have HB2 := Lib.hid hB2
      have HG2 := Lib.hid hG2
      by_cases h1 : (r : Int) = 65533
      · have h1' : r = 65533 := by omega
        by_cases hw1 : wd = 1
        · have HD : Hid (Utf8.decode s (pos + 0) = (65533, 1)) := Lib.hid (by rw [Nat.add_zero]; exact Prod.ext (by rw [hr, h1']) (by rw [hwd, hw1]))
          clear hr hwd hkp hB hit hbw hva q3 hit2 hbw2 hB2 c52 hGr hG2 h1 HIT HIT2
          subst h1' hw1
          have hw2 : (((1 : Nat) : Int) == 1) = true := rfl
          go_wp2_with fail
          refine (HC.out _ HG2.out.tabs).mono ?_
          rintro e w3 ⟨rfl, hb3⟩
          have hB3 : Blk w3 w.heap.size 80 _ := HB2.out.below hb3 (by omega)
          have hbw3 := HBW2.out.trans (hb3.mono (B' := w.heap.size) (by omega))
          have HB3 := Lib.hid hB3
          have HBW3 := Lib.hid hbw3
          clear hB3 hbw3
          have hsz3 : w.heap.size ≤ w3.heap.size := HBW3.out.size
          go_wp2_with fail
          refine (Tryz.Builder_Grow_fresh_cap w.heap.size w.heap.size s.size _ (Nat.le_refl _) HB3.out hsz3 (by omega)).mono ?_
          rintro e w4 ⟨rfl, ⟨hB4, hb4⟩, pc, cap, hc4, hcap⟩
          have HB4 : Hid (Lib.IsBuilderF 80 5 w.heap.size w.heap.size (Lib.byteCells []) w4) := Lib.hid (.inr (Lib.BuilderAtF.of hB4))
          have hbw4 := Lib.hid (HBW3.out.trans hb4)
          have hsz4 : w.heap.size ≤ w4.heap.size := hbw4.out.size
          have HC4 := Lib.hid hc4
          clear hB4 hb4 hc4
          go_wp2_with fail
          refine (Any.Builder_WriteString_kc Tryz.bldB166 Tryz.bldBX w.heap.size w.heap.size (Lib.byteCells []) _ _ HB4.out ?_ hsz4).mono ?_
          · rw [Lib.byteCells_length]; simp; omega
          rintro e w5 ⟨rfl, ⟨hB5, hb5, _⟩, hcc⟩
          obtain ⟨v1, hv1, hcv⟩ := hcc _ HC4.out
          obtain ⟨an, nn, cn, hcn, hv1'⟩ : ∃ an nn cn, 1 ≤ cn ∧ w5.cell? ⟨w.heap.size, 1, none⟩ = some (.slice an nn cn) := by
            obtain ⟨_, v, hb, hown, _⟩ := hB5
            have e1 : w5.cell? ⟨w.heap.size, 1, none⟩ = some v := Blk.cell hb 1
            rw [e1] at hv1
            obtain rfl := Option.some.inj hv1
            rcases hown.2 with ⟨rfl, _⟩ | ⟨g, c, cur, fz, rfl, _⟩
            · simp only [Value.capOf] at hcv; omega
            · simp only [Value.capOf] at hcv; exact ⟨_, _, c, by omega, e1⟩
          have HB5 : Hid (Bld w.heap.size w.heap.size (Lib.byteCells (s.data.toList.take pos)) w5) := by
            apply Lib.hid
            obtain ⟨_, v, hb, hown, _⟩ := hB5
            have e : Lib.byteCells [] ++ Lib.strCells (s.extract 0 pos) = Lib.byteCells (s.data.toList.take pos) := by
              unfold Lib.strCells Lib.byteCells
              rw [Lib.extract_from_zero]
              rfl
            rw [e] at hown
            exact .inr ⟨v, hb, hown⟩
          have HBW5 := Lib.hid (hbw4.out.trans hb5)
          have HT : Hid ((s.extract pos s.size).size + pos = s.size ∧ Utf8.decode (s.extract pos s.size) 0 = (65533, 1)) := by
            apply Lib.hid
            refine ⟨by rw [Lib.tail_size]; omega, ?_⟩
            rw [Lib.tail_decode]
            exact HD.out
          have hc1 : ((cn : Int) == 0) = false := by simp; omega
          clear hB5 hb5 hcc hv1 hcv hbw4 HC4 HB4
          go_wp2_with fail
          refine (Tryz.Builder_Cap_cell w.heap.size an nn cn _ hv1').mono ?_
          rintro e w6 ⟨rfl, rfl⟩
          obtain ⟨t, ht⟩ : ∃ t, s.extract pos s.size = t := ⟨_, rfl⟩
          rw [ht] at HT ⊢
          clear ht hv1'
          have htz : t.size ≤ 1000000000 := by have := HT.out.1; omega
          go_wp2
          go_loopw [10, 11] (fun inv i wx => ∃ (k : Nat) (acc : Bs) (bb : Bool), k ≤ t.size ∧ i = .int .i64 k ∧ inv = .bool bb ∧ Bld w.heap.size w.heap.size (Lib.byteCells acc) wx ∧ Below w.heap.size w wx ∧ acc.length ≤ pos + k ∧ (k ≠ 0 → acc.length + 1 ≤ pos + k)) (fun _ i _ => t.size - (intOf i).toNat)
          case atStart => exact ⟨0, s.data.toList.take pos, false, Nat.zero_le _, rfl, rfl, HB5.out, HBW5.out, by simp; omega, by simp⟩
          case round =>
            obtain ⟨k, acc, bb, hk, rfl, rfl, hB, hbw, ha1, ha2⟩ := hrel
            have htp := HT.out.1
            have htp2 : t.size + pos ≤ s.size := by omega
            have htp3 : s.size ≤ t.size + pos := by omega
            have ha3 : acc.length ≤ 1000000000 := by omega
            have hszx : w.heap.size ≤ wr.heap.size := hbw.size
            have hlen : (Lib.byteCells acc).length ≤ 1000000000 := by rw [Lib.byteCells_length]; exact ha3
            have HA2 := Lib.hid ha2
            clear htp ha2
            by_cases hlt : k < t.size
            · obtain ⟨c, hc⟩ : ∃ c, t[k]'hlt = c := ⟨_, rfl⟩
              have hcl := c.toNat_lt
              have hix : t.get! k = c := by rw [← hc]; exact Utf8W.get!_of_lt t k hlt
              by_cases hasc : c.toNat < 128
              · have hk0 : k ≠ 0 := by
                  rintro rfl
                  have hd := decode_ascii t 0 hlt (by rw [hc]; exact hasc)
                  rw [HT.out.2] at hd
                  have := congrArg Prod.fst hd
                  simp only at this
                  rw [hc] at this
                  omega
                have hascz : ((c.toNat : Nat) : Int) < 128 := by omega
                clear hix
                go_wp2_with fail
                refine (bld_WriteByte _ _ _ _ _ hB (by omega) hszx).mono ?_
                rintro e w7 ⟨rfl, hB7, hK7⟩
                go_wp2
                go_roundw
                case rel =>
                  refine ⟨k + 1, acc ++ [c], false, by omega, by go_num, rfl, ?_, hbw.trans (hK7.below_of (by omega) (by intro i hi; omega)), ?_, ?_⟩
                  · rw [Lib.byteCells_append]; exact hB7
                  · have := HA2.out hk0; simp; omega
                  · intro _; have := HA2.out hk0; simp; omega
                case measure => simp [intOf]; omega
              · have hascz : ¬ ((c.toNat : Nat) : Int) < 128 := by omega
                obtain ⟨q1, q2, _⟩ := valid_next t k hlt
                have c52 := decode_tail t k hlt
                have hd0 : k = 0 → (Utf8.decode t k).2 = 1 := by rintro rfl; rw [HT.out.2]
                generalize hr : (Utf8.decode t k).1 = r at c52
                generalize hwd : (Utf8.decode t k).2 = wd at q1 q2 hd0 c52
                have HC7 := Lib.hid c52
                have HD0 := Lib.hid hd0
                have hG7 : Glob wr := HG.out.below hbw HG.out.size
                have HG7 := Lib.hid hG7
                clear hix hr hwd c52 hG7 hd0
                by_cases hw1 : wd = 1
                · subst hw1
                  cases bb
                  · go_wp2_with fail
                    refine (HC7.out _ HG7.out.tabs).mono ?_
                    rintro e w7 ⟨rfl, hb7⟩
                    have hB7 := bld_below hB hb7
                    have hsz7 : w.heap.size ≤ w7.heap.size := by have := hb7.size; omega
                    have hbw7 := hbw.trans (hb7.mono hszx)
                    go_wp2_with fail
                    refine (bld_WriteString _ _ _ _ _ hB7 (by rw [Lib.size_eq]; simp; omega) hsz7).mono ?_
                    rintro e w8 ⟨rfl, hB8, hK8⟩
                    go_wp2
                    go_roundw
                    case rel =>
                      refine ⟨k + 1, acc, true, by omega, by go_num, rfl, by simpa [Lib.strCells] using hB8, hbw7.trans (hK8.below_of (by omega) (by intro i hi; omega)), by omega, fun _ => by omega⟩
                    case measure => simp [intOf]; omega
                  · go_wp2_with fail
                    refine (HC7.out _ HG7.out.tabs).mono ?_
                    rintro e w7 ⟨rfl, hb7⟩
                    have hB7 := bld_below hB hb7
                    have hbw7 := hbw.trans (hb7.mono hszx)
                    go_wp2
                    go_roundw
                    case rel => exact ⟨k + 1, acc, true, by omega, by go_num, rfl, hB7, hbw7, by omega, fun _ => by omega⟩
                    case measure => simp [intOf]; omega
                · have hk0 : k ≠ 0 := fun e => hw1 (HD0.out e)
                  have hw2 : ((wd : Int) == 1) = false := by simp; omega
                  have hpz : (t.extract k (k + wd)).size = wd := by simp; omega
                  have HPZ := Lib.hid hpz
                  clear hpz hw1
                  go_wp2_with fail
                  refine (HC7.out _ HG7.out.tabs).mono ?_
                  rintro e w7 ⟨rfl, hb7⟩
                  have hB7 := bld_below hB hb7
                  have hsz7 : w.heap.size ≤ w7.heap.size := by have := hb7.size; omega
                  have hbw7 := hbw.trans (hb7.mono hszx)
                  go_wp2_with fail
                  refine (bld_WriteString _ _ _ _ _ hB7 (by rw [HPZ.out]; omega) hsz7).mono ?_
                  rintro e w8 ⟨rfl, hB8, hK8⟩
                  go_wp2
                  go_roundw
                  case rel =>
                    have hl : (t.extract k (k + wd)).data.toList.length = wd := by rw [← Lib.size_eq]; exact HPZ.out
                    refine ⟨k + wd, acc ++ (t.extract k (k + wd)).data.toList, false, by omega, by go_num, rfl, ?_, hbw7.trans (hK8.below_of (by omega) (by intro i hi; omega)), ?_, ?_⟩
                    · rw [Lib.byteCells_append]; exact hB8
                    · rw [List.length_append, hl]; have := HA2.out hk0; omega
                    · intro _; rw [List.length_append, hl]; have := HA2.out hk0; omega
                  case measure => simp [intOf]; omega
            · obtain rfl : k = t.size := by omega
              go_wp2_with fail
              refine (bld_String _ _ _ _ hB hszx).mono ?_
              rintro e w7 ⟨rfl, hb7⟩
              go_wp2
              go_ret
              have := HA2.out (by omega)
              exact ⟨acc, rfl, by omega, hbw.trans (hb7.mono (by omega))⟩
        · rw [if_neg (by omega)] at q3
          have HQ3 := Lib.hid q3
          clear hr hwd hkp hB hit hbw hva q3 hit2 hbw2 hB2 c52 hGr hG2 h1
          subst h1'
          have hw2 : ((wd : Int) == 1) = false := by simp; omega
          go_wp2_with fail
          refine (HC.out _ HG2.out.tabs).mono ?_
          rintro e w3 ⟨rfl, hb3⟩
          go_wp2
          go_roundw
          case rel =>
            refine ⟨rfl, pos + wd, q2, HQ3.out.symm, HB2.out.below hb3 (by omega), ?_, HBW2.out.trans (hb3.mono (by omega))⟩
            rw [hb3.block _ (by omega)]; exact HIT2.out
          case measure =>
            have e2 : w3.heap[w.heap.size + 1]? = some (.stringIter s (pos + wd)) := by rw [hb3.block _ (by omega)]; exact HIT2.out
            simp only [World.iterPos, e2, HIT.out]
            omega
      · rw [if_neg (by omega)] at q3
        have HQ3 := Lib.hid q3
        have h2 : ((r : Int) != 65533) = true := by simpa using h1
        clear hr hwd hkp hB hit hbw hva q3 hit2 hbw2 hB2 c52 hGr hG2 h1
        go_wp2
        go_roundw
        case rel => exact ⟨rfl, pos + wd, q2, HQ3.out.symm, HB2.out, HIT2.out, HBW2.out⟩
        case measure =>
          simp only [World.iterPos, HIT2.out, HIT.out]
          omega
    · exfalso
      obtain rfl : pos = s.size := by omega
      rw [validD_end] at hva
      cases hva
end Go.Proofs.YtadncponjpdcmaaGreatDoor

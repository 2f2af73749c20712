/-
  lines.Text: walked: a word's text.
-/
import Derived.Test.YtadncponjpdcmaaGreatDoorParseV
namespace Go.Proofs.YtadncponjpdcmaaGreatDoor
open Go.RowKit

def rawGo (first : Bool) (acc : Bs) : List Bs → Option Bs
  | [] => some acc
  | p :: r => if first then rawGo false (acc ++ p) r else match decPart p with
    | none => none
    | some x => rawGo false (acc ++ x) r

theorem rawGo_eq : ∀ (l : List Bs) (acc : Bs), rawGo false acc l = (decParts l).map (acc ++ ·)
  | [], acc => by simp [rawGo, decParts]
  | p :: r, acc => by
    unfold rawGo decParts
    simp only [Bool.false_eq_true, if_false]
    cases h : decPart p with
    | none => simp
    | some x =>
      simp only
      rw [rawGo_eq r (acc ++ x)]
      cases decParts r <;> simp

theorem rawGo_text (w : Bs) : rawGo true [] (Lib.split w [37]) = rawText w := by
  unfold rawText
  cases h : Lib.split w [37] with
  | nil => rfl
  | cons p r => simp only [rawGo, if_true]; rw [rawGo_eq]; simp

theorem hexNum_lt {l : Bs} {n : Nat} (h : hexNum l = some n) (hl : l.length ≤ 2) : n < 256 := by
  have hv : ∀ c d, hexVal c = some d → d < 16 := by
    intro c d h
    unfold hexVal at h
    split at h
    · injection h with h; omega
    · split at h
      · injection h with h; omega
      · split at h
        · injection h with h; omega
        · cases h
  match l, hl with
  | [], _ => simp [hexNum] at h
  | [a], _ =>
    simp only [hexNum, hexFold] at h
    cases ha : hexVal a with
    | none => simp [ha] at h
    | some x => simp [ha] at h; have := hv _ _ ha; omega
  | [a, b], _ =>
    simp only [hexNum, hexFold] at h
    cases ha : hexVal a with
    | none => simp [ha] at h
    | some x =>
      cases hb : hexVal b with
      | none => simp [ha, hb] at h
      | some y => simp [ha, hb] at h; have := hv _ _ ha; have := hv _ _ hb; omega

theorem decPart_eq (p : Bs) : decPart p = match hexNum (p.take 2) with
    | none => none
    | some n => if p.length < 2 then none else some (UInt8.ofNat n :: p.drop 2) := by
  match p with
  | [] => simp [decPart, hexNum]
  | [a] =>
    simp only [decPart, hexNum, List.take_succ_cons, List.take_nil, hexFold]
    cases ha : hexVal a <;> simp
  | a :: b :: r =>
    simp only [decPart, hexNum, List.take_succ_cons, List.take_zero, hexFold]
    cases ha : hexVal a with
    | none => simp
    | some x =>
      cases hb : hexVal b with
      | none => simp
      | some y =>
        have e : 16 * x + y = x * 16 + y := by omega
        simp [e]

theorem lens_split1 (k : UInt8) : ∀ l : Bs, Lib.lens (split1 k l) ≤ l.length
  | [] => by simp [split1, Lib.lens]
  | c :: l => by
    have ih := lens_split1 k l
    unfold split1
    split
    · simp [Lib.lens] at ih ⊢; omega
    · split
      · simp [Lib.lens]
      · rename_i p r h
        rw [h] at ih
        simp [Lib.lens] at ih ⊢; omega

theorem lens_drop {l : List Bs} {k : Nat} {p : Bs} (h : l[k]? = some p) : Lib.lens (l.drop k) = p.length + Lib.lens (l.drop (k + 1)) := by
  obtain ⟨hk, rfl⟩ := List.getElem?_eq_some_iff.1 h
  rw [List.drop_eq_getElem_cons hk]
  unfold Lib.lens
  rw [List.map_cons, List.sum_cons]

/-- What strings.Split hands to Text: the parts. -/
theorem split_parts (s : ByteArray) (k : UInt8) (w : World) (hs : s.size ≤ 1000000000) (hG : Glob w) :
    Calls Tryz.prog 43 #[.string s, .string ⟨#[k]⟩] w fun e w' => ∃ ps : List ByteArray, ps.map (·.data.toList) = split1 k s.data.toList ∧ 0 < ps.length ∧ ps.length ≤ s.size + 1 ∧
      e = .returned (.slice (some ⟨w.heap.size, 0, none⟩) ps.length ps.length) ∧ w.alloc (.cells (ps.map Value.string).toArray 9) = w' := by
  obtain ⟨m, hm⟩ := hG.maxLen
  refine (Tryz.strings_Split s ⟨#[k]⟩ m w (by omega) hm (by show 1 ≤ 1; omega)).mono ?_
  rintro e w' ⟨rfl, rfl⟩
  have hd := Lib.splitB_data ⟨#[k]⟩ 0 (Lib.countB s ⟨#[k]⟩) s
  have hc := Lib.countB_le ⟨#[k]⟩ (by show 1 ≤ 1; omega) s.size s (Nat.le_refl _)
  have hl := Lib.splitB_all ⟨#[k]⟩ (by show 1 ≤ 1; omega) 0 _ s rfl
  refine ⟨_, hd.trans ?_, by rw [hl]; omega, by rw [hl]; omega, by rw [hl], rfl⟩
  exact splitK_eq k s.data.toList


/-- Where a parts' row lies behind a builder. -/
theorem parts_row (w : World) (ps : List ByteArray) : ((w.alloc (.cells #[.pointer none, .slice none 0 0] 80)).alloc (.cells (ps.map Value.string).toArray 9)).heap[w.heap.size + 1]? = some (.cells (ps.map Value.string).toArray 9 (0, 0)) := by
  have := Blk.new (w.alloc (.cells #[.pointer none, .slice none 0 0] 80)) 9 (ps.map Value.string).toArray
  simpa [Blk] using this

/-- How Text ends. -/
def TextPost (r : Option Bs) (w : World) (e : Ending) (w' : World) : Prop :=
  (match r with
    | some t => e = .returned (.tuple #[str t, .bool true])
    | none => e = .returned (.tuple #[str [], .bool false])) ∧ Below w.heap.size w w'

theorem textL_none {w : Bs} (h : rawText w = none) : textL w = none := by unfold textL; rw [h]
theorem textL_some {w s : Bs} (h : rawText w = some s) : textL w = if wordL (if w = [45] then [] else s) = w then some (if w = [45] then [] else s) else none := by unfold textL; rw [h]

theorem take2_parse (p : ByteArray) : ∀ wx, Glob wx → Calls Tryz.prog 44 #[.string (p.extract 0 (min 2 (p.size : Int)).toNat), .int .i64 16, .int .i64 8] wx (PUOPost (hexNum (p.data.toList.take 2)) wx) := by
  intro wx hG
  have e : (p.extract 0 (min 2 (p.size : Int)).toNat).data.toList = p.data.toList.take 2 := by
    rw [Lib.extract_from_zero]
    by_cases h : 2 ≤ p.size
    · congr 1; omega
    · rw [List.take_of_length_le (by rw [← Lib.size_eq]; omega), List.take_of_length_le (by rw [← Lib.size_eq]; omega)]
  have := ParseUint_any (p.extract 0 (min 2 (p.size : Int)).toNat) wx (by rw [Lib.size_eq, e]; exact List.length_take_le _ _) hG
  rw [e] at this
  exact this

set_option maxHeartbeats 2000000 in
set_option maxRecDepth 100000 in
theorem Text_any (s : ByteArray) (w : World) (hs : s.size ≤ 1000000000) (hG : Glob w) :
    Calls Tryz.prog 19 #[.string s] w (TextPost (textL s.data.toList) w) := by
  have HG := Lib.hid hG
  obtain ⟨R, hr'⟩ : ∃ R, rawGo true [] (split1 37 s.data.toList) = R := ⟨_, rfl⟩
  have hT : rawText s.data.toList = R := by rw [← hr', ← split_one, rawGo_text]
  have HT := Lib.hid hT
  have HR := Lib.hid hr'
  have HL := Lib.hid (lens_split1 37 s.data.toList)
  have hG1 : Glob (w.alloc (.cells #[.pointer none, .slice none 0 0] 80)) := hG.below ((Below.refl _ w).alloc (Nat.le_refl _) _) hG.size
  have HG1 := Lib.hid hG1
  clear hG hr' hG1 hT
  go_enter Tryz.func19, Tryz.ntmps19
  go_wp2_with fail
  refine (split_parts s 37 _ hs HG1.out).mono ?_
  rintro e w1 ⟨ps, hps, hn0, hn1, rfl, hw1⟩
  have hK1 : Below w.heap.size w w1 := by rw [← hw1]; exact ((Below.refl _ w).alloc (Nat.le_refl _) _).alloc (by simp) _
  have hsz1 : w.heap.size + 2 ≤ w1.heap.size := by rw [← hw1]; simp
  have hbl : Bld (w.heap.size + 2) w.heap.size (Lib.byteCells []) w1 := by rw [← hw1]; exact Bld.fresh ((Blk.new w 80 _).alloc _)
  have hrow : ∀ k (hk : k < ps.length), w1.cell? ⟨w.heap.size + 1, k, none⟩ = some (.string ps[k]) := by
    intro k hk
    rw [← hw1, Blk.cell (parts_row w ps) k]
    simp [hk]
  rw [← hps] at HR HL
  have HK1 := Lib.hid hK1
  have HBL := Lib.hid hbl
  have HROW := Lib.hid hrow
  have hadd : (⟨w.heap.size, 0, none⟩ : Addr) = ⟨w.heap.size, 0, none⟩ := rfl
  clear hK1 hbl hrow hw1 hps hadd
  go_wp2
  go_loopw [13] (fun i wr => ∃ (k : Nat) (acc : Bs), k ≤ ps.length ∧ i = .int .i64 k ∧ Bld (w.heap.size + 2) w.heap.size (Lib.byteCells acc) wr ∧ Keep (fun b => b < w.heap.size + 2 ∧ b ≠ w.heap.size) w1 wr ∧
      rawGo (decide (k = 0)) acc ((ps.map (·.data.toList)).drop k) = R ∧ acc.length + Lib.lens ((ps.map (·.data.toList)).drop k) ≤ s.data.toList.length) (fun i _ => ps.length - (intOf i).toNat)
  case atStart => exact ⟨0, [], Nat.zero_le _, rfl, HBL.out, Keep.refl _ _, HR.out, by simpa using HL.out⟩
  case round =>
    obtain ⟨k, acc, hk, rfl, hB, hK, hf, hlen⟩ := hrel
    have hal : (Lib.byteCells acc).length ≤ 1000000000 := by rw [Lib.byteCells_length]; rw [← Lib.size_eq] at hlen; omega
    have hszr : w.heap.size + 2 ≤ wr.heap.size := by have := hK.size; omega
    by_cases hlt : k < ps.length
    · obtain ⟨p, hp⟩ : ∃ p, ps[k] = p := ⟨_, rfl⟩
      have hcl : wr.cell? ⟨w.heap.size + 1, k, none⟩ = some (.string p) := by
        rw [hK.cell (p := ⟨w.heap.size + 1, k, none⟩) (by show w.heap.size + 1 < _; omega) (by simp), HROW.out k hlt, hp]
      have hat : (ps.map (·.data.toList))[k]? = some p.data.toList := by simp [hlt, hp]
      have hdr : (ps.map (·.data.toList)).drop k = p.data.toList :: (ps.map (·.data.toList)).drop (k + 1) := by
        obtain ⟨hk', he⟩ := List.getElem?_eq_some_iff.1 hat
        rw [List.drop_eq_getElem_cons hk', he]
      rw [lens_drop hat] at hlen
      rw [hdr] at hf
      have hpz : p.size ≤ 1000000000 := by rw [Lib.size_eq]; rw [← Lib.size_eq s] at hlen; omega
      have HF := Lib.hid hf
      have HLEN := Lib.hid hlen
      clear hat hdr hf hlen hp
      by_cases hk0 : k = 0
      · subst hk0
        go_wp2_with fail
        refine (bld_WriteString _ _ _ _ _ hB (by omega) hszr).mono ?_
        rintro e w3 ⟨rfl, hB3, hK3⟩
        go_wp2
        go_roundw
        case rel =>
          refine ⟨1, acc ++ p.data.toList, by omega, by go_num, by rw [Lib.byteCells_append]; exact hB3, hK.trans hK3, HF.out, ?_⟩
          have := HLEN.out
          simp only [Nat.zero_add] at this
          rw [List.length_append]; omega
        case measure => simp [intOf]; omega
      · have hkz : (0 : Int) < (k : Int) := by omega
        have c44 := take2_parse p
        have hde := decPart_eq p.data.toList
        have hkf : decide (k = 0) = false := by simpa using hk0
        rw [hkf] at HF
        have hf2 := HF.out
        simp only [rawGo, Bool.false_eq_true, if_false] at hf2
        rw [hde] at hf2
        have hsz2 : p.data.toList.length = p.size := (Lib.size_eq p).symm
        cases hn : hexNum (p.data.toList.take 2) with
        | none =>
          rw [hn] at c44 hf2
          simp only at hf2
          subst hf2
          have C44 := Lib.hid c44
          have hGr : Glob wr := (HG.out.below HK1.out HG.out.size).keep hK (by have := HG.out.size; intro i hi; omega)
          have HGR := Lib.hid hGr
          clear c44 hde hkf hsz2 hn HF hk0 HLEN hGr
          go_wp2_with fail
          refine (C44.out _ HGR.out).mono ?_
          rintro e w3 ⟨⟨N, rfl⟩, hb3⟩
          go_wp2
          go_ret2
          rw [textL_none HT.out]
          exact ⟨rfl, HK1.out.trans ((hK.below_of (B := w.heap.size) (by omega) (by intro i hi; omega)).trans (hb3.mono (by omega)))⟩
        | some n =>
          have hn256 := hexNum_lt hn (List.length_take_le _ _)
          rw [hn] at c44 hf2
          simp only at hf2
          have C44 := Lib.hid c44
          have hGr : Glob wr := (HG.out.below HK1.out HG.out.size).keep hK (by have := HG.out.size; intro i hi; omega)
          have HGR := Lib.hid hGr
          rw [hsz2] at hf2
          by_cases h2 : p.size < 2
          · rw [if_pos h2] at hf2
            simp only at hf2
            subst hf2
            clear c44 hde hkf hsz2 hn HF hk0 HLEN hGr
            go_wp2_with fail
            refine (C44.out _ HGR.out).mono ?_
            rintro e w3 ⟨rfl, hb3⟩
            go_wp2
            go_ret2
            rw [textL_none HT.out]
            exact ⟨rfl, HK1.out.trans ((hK.below_of (B := w.heap.size) (by omega) (by intro i hi; omega)).trans (hb3.mono (by omega)))⟩
          · rw [if_neg h2] at hf2
            simp only at hf2
            have HF2 := Lib.hid hf2
            have hu : IntKind.u8.wrap (n : Int) = (n : Int) := IntWalk.u8_in _ (by omega)
            have hn0 : (n : Int) < 256 := by omega
            have h2' : (2 : Int) ≤ (p.size : Int) := by omega
            have hex2 : (p.extract 2 p.size).size ≤ 1000000000 := by simp; omega
            clear c44 hde hkf hsz2 hn HF hk0 hGr hf2 h2
            go_wp2_with fail
            refine (C44.out _ HGR.out).mono ?_
            rintro e w3 ⟨rfl, hb3⟩
            have hB3 := bld_below hB hb3
            have hK3 : Keep (fun b => b < w.heap.size + 2 ∧ b ≠ w.heap.size) w1 w3 := hK.trans (Keep.of_below hb3 (fun k hk hk2 => hk2))
            have hsz3 : w.heap.size + 2 ≤ w3.heap.size := by have := hb3.size; omega
            clear hB hK
            go_wp2_with fail
            refine (bld_WriteByte _ _ _ _ _ hB3 (by omega) hsz3).mono ?_
            rintro e w4 ⟨rfl, hB4, hK4⟩
            have hsz4 : w.heap.size + 2 ≤ w4.heap.size := by have := hK4.size; omega
            go_wp2_with fail
            refine (bld_WriteString _ _ _ _ _ hB4 (by simp only [List.length_append, List.length_cons, List.length_nil]; omega) hsz4).mono ?_
            rintro e w5 ⟨rfl, hB5, hK5⟩
            go_wp2
            go_roundw
            case rel =>
              refine ⟨k + 1, acc ++ UInt8.ofNat n :: p.data.toList.drop 2, by omega, by go_num, ?_, hK3.trans (hK4.trans hK5), HF2.out, ?_⟩
              · have e1 : Lib.byteCells (acc ++ UInt8.ofNat n :: p.data.toList.drop 2) = Lib.byteCells acc ++ [Value.int IntKind.u8 n] ++ Lib.strCells (p.extract 2 p.size) := by
                  unfold Lib.byteCells Lib.strCells
                  rw [List.map_append, List.map_cons, Lib.extract_to_end, List.append_assoc]
                  have : ((UInt8.ofNat n).toNat : Int) = n := by simp; omega
                  rw [this]; rfl
                rw [e1]; exact hB5
              · have h3 := HLEN.out
                have h4 : p.data.toList.length = p.size := (Lib.size_eq p).symm
                rw [List.length_append, List.length_cons, List.length_drop]; omega
            case measure => simp [intOf]; omega
    · obtain rfl : k = ps.length := by omega
      rw [List.drop_of_length_le (by simp)] at hf
      have hR : R = some acc := by rw [← hf]; cases (decide (ps.length = 0)) <;> rfl
      subst hR
      have hGr : Glob wr := (HG.out.below HK1.out HG.out.size).keep hK (by have := HG.out.size; intro i hi; omega)
      have hbr : Below w.heap.size w wr := HK1.out.trans (hK.below_of (B := w.heap.size) (by omega) (by intro i hi; omega))
      have HGR := Lib.hid hGr
      have HBR := Lib.hid hbr
      have hacc : acc.length ≤ 1000000000 := by rw [Lib.byteCells_length] at hal; exact hal
      clear hf hlen hGr hbr hK
      by_cases hd : s.data.toList = [45]
      · have hd' : (s.toList == [45]) = true := by rw [ByteArray.toList_eq, hd]; rfl
        have HD := Lib.hid hd
        have hwd : wordL [] = [45] := rfl
        clear hd
        go_wp2_with fail
        refine (bld_String _ _ _ _ hB hszr).mono ?_
        rintro e w3 ⟨rfl, hb3⟩
        have hbw3 := HBR.out.trans (hb3.mono (B' := w.heap.size) (by omega))
        have hG3 : Glob w3 := HG.out.below hbw3 HG.out.size
        have HG3 := Lib.hid hG3
        have HB3 := Lib.hid hbw3
        clear hG3 hbw3 hb3
        go_wp2_with fail
        refine (Word_any ⟨#[]⟩ _ (by decide) HG3.out).mono ?_
        rintro e w4 ⟨rfl, hb4⟩
        have hdd : s = ⟨#[45]⟩ := bytes_eq HD.out
        subst hdd
        go_wp2
        go_ret2
        rw [textL_some HT.out, if_pos rfl]
        exact ⟨rfl, HB3.out.trans (hb4.mono HB3.out.size)⟩
      · have hd' : (s.toList == [45]) = false := eq_no hd
        have HD := Lib.hid hd
        clear hd
        go_wp2_with fail
        refine (bld_String _ _ _ _ hB hszr).mono ?_
        rintro e w3 ⟨rfl, hb3⟩
        have hbw3 := HBR.out.trans (hb3.mono (B' := w.heap.size) (by omega))
        have hG3 : Glob w3 := HG.out.below hbw3 HG.out.size
        have HG3 := Lib.hid hG3
        have HB3 := Lib.hid hbw3
        clear hG3 hbw3 hb3
        go_wp2_with fail
        refine (Word_any ⟨acc.toArray⟩ _ (by rw [Lib.size_eq]; exact hacc) HG3.out).mono ?_
        rintro e w4 ⟨rfl, hb4⟩
        by_cases hw : wordL acc = s.data.toList
        · have hw' : (wordL acc == s.toList) = true := by rw [ByteArray.toList_eq, hw]; simp
          have HW := Lib.hid hw
          clear hw
          go_wp2
          go_ret2
          rw [textL_some HT.out, if_neg HD.out, if_pos HW.out]
          exact ⟨rfl, HB3.out.trans (hb4.mono HB3.out.size)⟩
        · have hw' : (wordL acc == s.toList) = false := by rw [ByteArray.toList_eq]; simpa using hw
          have HW := Lib.hid hw
          clear hw
          go_wp2
          go_ret2
          rw [textL_some HT.out, if_neg HD.out, if_neg HW.out]
          exact ⟨rfl, HB3.out.trans (hb4.mono HB3.out.size)⟩
end Go.Proofs.YtadncponjpdcmaaGreatDoor

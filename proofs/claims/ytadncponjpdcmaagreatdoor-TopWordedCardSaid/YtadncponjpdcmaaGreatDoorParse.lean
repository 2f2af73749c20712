/-
  lines.Parse: walked.
-/
import Derived.Test.YtadncponjpdcmaaGreatDoorLaws2
namespace Go.Proofs.YtadncponjpdcmaaGreatDoor
open Go.RowKit

/-- What Parse hands back. -/
def ParsePost (r : List OpL × Nat × Nat) (w : World) (e : Ending) (w' : World) : Prop :=
  ∃ (A : Option Addr) (c : Nat), e = .returned (.tuple #[.slice A r.1.length c, .int .i64 r.2.1, .int .i64 r.2.2]) ∧ Reads w' w'.heap.size 8 A r.1.length (opsCells r.1) ∧ Below w.heap.size w w'

theorem own_slice {w : World} {base : Nat} {e : TypeId} {size : Nat} {v : Value} {n : Nat} {xs : List Value} (h : w.ownsRow base e size v n xs) : ∃ A c, v = .slice A n c ∧ n ≤ c ∧ c ≤ maxLen := by
  rcases h.2 with ⟨rfl, rfl⟩ | ⟨g, cap, cur, rfl, _, _, h1, h2, _⟩
  · exact ⟨none, 0, rfl, Nat.le_refl _, by unfold maxLen; omega⟩
  · exact ⟨_, _, rfl, h1, h2⟩

theorem Glob.own_ne {w : World} (hG : Glob w) {base : Nat} {e : TypeId} {size n : Nat} {v : Value} {xs : List Value} (h : w.ownsRow base e size v n xs) (hb : 8 ≤ base) : ∀ k, v.ownBlock = some k → 8 ≤ k := by
  intro k hk
  rcases h.2 with ⟨rfl, _⟩ | ⟨g, cap, cur, rfl, hg, _⟩
  · simp [Value.ownBlock] at hk
  · simp [Value.ownBlock] at hk; omega

theorem own_below {w w' : World} {base : Nat} {e : TypeId} {size n : Nat} {v : Value} {xs : List Value} (h : w.ownsRow base e size v n xs) (hb : Below w.heap.size w w') : w'.ownsRow base e size v n xs := by
  obtain ⟨h1, h2⟩ := h
  refine ⟨h1, ?_⟩
  rcases h2 with h2 | ⟨g, cap, cur, rfl, hg, hh, h3⟩
  · exact .inl h2
  · have hlt : g < w.heap.size := by
      rcases Nat.lt_or_ge g w.heap.size with hlt | hge
      · exact hlt
      · rw [Array.getElem?_eq_none hge] at hh; cases hh
    exact .inr ⟨g, cap, cur, rfl, hg, (hb.block g hlt).trans hh, h3⟩

theorem cut_lengths (l : Bs) (h : l ≠ []) : (Lib.cut l [10]).1.length ≤ l.length ∧ (Lib.cut l [10]).2.1.length < l.length := by
  have hl : 0 < l.length := List.length_pos_iff.2 h
  unfold Lib.cut
  split
  · simp only [List.length_take, List.length_drop, List.length_singleton]
    omega
  · simp only [List.length_nil]
    omega

theorem add_lit0 (g j : Nat) : (⟨g, 0, none⟩ : Addr).add j = ⟨g, j, none⟩ := by unfold Addr.add; split <;> simp_all

def strSize : Value → Nat
  | .string s => s.size
  | _ => 0

theorem opCells_one (o : OpL) : ∀ u ∈ (opCells o).toList, u.oneCell' = true := by
  intro u hu
  simp only [opCells, List.mem_cons, List.not_mem_nil, or_false] at hu
  rcases hu with rfl | rfl | rfl | rfl | rfl | rfl | rfl | rfl <;> rfl

theorem opsCells_snoc (acc : List OpL) (o : OpL) : opsCells (acc ++ [o]) = opsCells acc ++ (opCells o).toList := by
  rw [opsCells_append]; simp [opsCells]

set_option maxHeartbeats 8000000 in
set_option maxRecDepth 100000 in
theorem Parse_any (s : ByteArray) (rows : List Bs) (w : World) (hs : s.size ≤ 1000000) (hr : IsRows s.data.toList rows) (hn : rows.length ≤ 500) (hG : Glob w) :
    Calls Tryz.prog 22 #[.string s] w (ParsePost (parseRows 1 rows []) w) := by
  obtain ⟨i0, z0, hi, hz0, hzs, hz1, hz2⟩ := info_of info33
  have HI := Lib.hid hi
  have HZ0 := Lib.hid hz0
  have HZS := Lib.hid hzs
  have HZ1 := Lib.hid hz1
  have HZ2 := Lib.hid hz2
  have HR := Lib.hid hr
  have HG := Lib.hid hG
  obtain ⟨RES, hres⟩ : ∃ RES, parseRows 1 rows [] = RES := ⟨_, rfl⟩
  rw [hres]
  have HRES := Lib.hid hres
  clear hi hz0 hzs hz1 hz2 hr hG hres
  go_enter Tryz.func22, Tryz.ntmps22
  go_wp2_with fail
  go_loopw [0, 2, 5, 6, 7, 8, 9, 10, 11]
    (fun u0 u2 u5 _ _ _ _ _ _ wx => ∃ (t : ByteArray) (rs : List Bs) (acc : List OpL) (n : Nat), u0 = .string t ∧ u5 = .int .i64 n ∧ IsRows t.data.toList rs ∧ parseRows n rs acc = RES ∧ acc.length + rs.length ≤ 500 ∧ n + rs.length ≤ 501 ∧ t.size ≤ 1000000 ∧
      wx.ownsRow w.heap.size 33 8 u2 acc.length (opsCells acc) ∧ Below w.heap.size w wx)
    (fun u0 _ _ _ _ _ _ _ _ _ => strSize u0)
  case atStart => exact ⟨s, rows, [], 1, rfl, rfl, HR.out, HRES.out, by simpa using hn, by omega, hs, ⟨rfl, .inl ⟨rfl, rfl⟩⟩, Below.refl _ _⟩
  case round =>
    obtain ⟨t, rs, acc, n, rfl, rfl, hrs, hpr, hlen, hnn, hts, hown, hbw⟩ := hrel
    have hGx := HG.out.below hbw HG.out.size
    obtain ⟨A, c, rfl, hAc, hcm⟩ := own_slice hown
    have HBW := Lib.hid hbw
    have HGX := Lib.hid hGx
    have HOWN := Lib.hid hown
    have HPR := Lib.hid hpr
    clear hbw hGx hown hpr
    cases rs with
    | nil =>
      have h0 : t.toList.isEmpty = true := by rw [ByteArray.toList_eq]; have := hrs; simp only [IsRows] at this; rw [this]; rfl
      clear hrs
      have hpr := HPR.out
      have hres : RES = (acc, 0, 0) := hpr.symm
      have hrd := Reads.of_own HOWN.out
      have hpost : ParsePost (acc, 0, 0) w (.returned (.tuple #[.slice A acc.length c, .int .i64 0, .int .i64 0])) wr := ⟨A, c, rfl, hrd, HBW.out⟩
      have HPOST := Lib.hid hpost
      have HRS := Lib.hid hres
      clear hpr hres hrd hpost
      go_wp2_with fail
      go_ret3
      rw [HRS.out]
      exact HPOST.out
    | cons p r =>
      obtain ⟨hne, hp, hr⟩ := hrs
      have h0 : t.toList.isEmpty = false := by rw [ByteArray.toList_eq]; simpa using hne
      obtain ⟨hc1, hc2⟩ := cut_lengths t.data.toList hne
      obtain ⟨m, hm⟩ := HGX.out.maxLen
      have c50 := Tryz.strings_Cut t ⟨#[10]⟩ m wr (by omega) hm
      have hd : (⟨#[10]⟩ : ByteArray).data.toList = [10] := rfl
      rw [hd, hp] at c50
      rw [hp] at hc1
      obtain ⟨rest, hrest⟩ : ∃ rest, (Lib.cut t.data.toList [10]).2.1 = rest := ⟨_, rfl⟩
      obtain ⟨fl, hfl⟩ : ∃ fl, (Lib.cut t.data.toList [10]).2.2 = fl := ⟨_, rfl⟩
      rw [hrest] at hc2 hr c50
      rw [hfl] at c50
      have hts2 : t.data.toList.length = t.size := by rw [Array.length_toList]; rfl
      have hpl : p.length ≤ 1000000 := by omega
      have hrl : rest.length < t.size := by omega
      have C50 := Lib.hid c50
      have HRR := Lib.hid hr
      clear hne hp hrest hfl hd hc1 hc2 hm c50 hr hts2
      go_wp2_with fail
      refine C50.out.mono ?_
      rintro e w1 ⟨rfl, dn, hw1⟩
      have hb1 : Below wr.heap.size wr w1 := by rw [hw1]; exact below_drewN (Below.refl _ _) _
      have hg1 := HGX.out.below hb1 HGX.out.size
      have c38 := words_any ⟨p.toArray⟩ w1 (by show p.toArray.size ≤ _; rw [List.size_toArray]; omega) hg1
      have ep : (⟨p.toArray⟩ : ByteArray).data.toList = p := by simp
      rw [ep] at c38
      have HB1 := Lib.hid hb1
      have HG1 := Lib.hid hg1
      have C38 := Lib.hid c38
      have EP := Lib.hid ep
      clear hw1 hb1 hg1 c38 ep
      go_wp2_with fail
      refine C38.out.mono ?_
      rintro e w2 ⟨A2, n2, c2, rfl, hrd, hnc2, hcm2, hb2⟩
      have hb02 := HB1.out.trans (hb2.mono HB1.out.size)
      have HB02 := Lib.hid hb02
      have hg2 := HGX.out.below hb02 HGX.out.size
      have HG2 := Lib.hid hg2
      have hrd0 := hrd.1
      clear hb2 hb02 hg2
      have hwl : ∀ s ∈ wordsL p, s ≠ [] := fun s hs => by
        have := (List.mem_filter.1 hs).2
        intro e; subst e; simp at this
      have HPE := Lib.hid HPR.out
      cases hw : wordsL p with
      | nil =>
        have hsk : skipL p = true := by unfold skipL; rw [hw]
        rw [hw] at hrd0
        obtain rfl : n2 = 0 := by simpa using hrd0.symm
        have hpr2 : parseRows (n + 1) r acc = RES := by have := HPR.out; rw [parseRows, if_pos hsk] at this; exact this
        have HP2 := Lib.hid hpr2
        have hown2 := own_below HOWN.out HB02.out
        have HO2 := Lib.hid hown2
        clear hpr2 hsk hw hwl hrd hrd0 hown2
        go_wp2_with fail
        go_roundw
        case rel => exact ⟨⟨rest.toArray⟩, r, acc, n + 1, rfl, by go_num, by simpa using HRR.out, HP2.out, by simp at hlen ⊢; omega, by simp at hnn ⊢; omega, by show rest.toArray.size ≤ _; rw [List.size_toArray]; omega, HO2.out, HBW.out.trans (HB02.out.mono HBW.out.size)⟩
        case measure => simp only [strSize, ByteArray.size, List.size_toArray]; exact hrl
      | cons x xs =>
        obtain ⟨b, x', rfl⟩ : ∃ b x', x = b :: x' := by
          cases x with
          | nil => exact absurd rfl (hwl [] (by rw [hw]; simp))
          | cons b x' => exact ⟨b, x', rfl⟩
        rw [hw] at hrd hrd0
        have hn2 : 0 < n2 := by simp at hrd0; omega
        obtain ⟨ad, u, rfl, _, hu, hcell⟩ := hrd.at_ hn2
        simp at hu
        subst hu
        rw [add_zero'] at hcell
        have hn0 : ((n2 : Int) == 0) = false := by simp; omega
        have HW := Lib.hid hw
        clear hrd hrd0 hw hwl
        by_cases hb : b.toNat = 35
        · have hb5 : ∀ h, ((((⟨(b :: x').toArray⟩ : ByteArray)[0]'h).toNat : Int) == 35) = true := fun _ => by show ((b.toNat : Int) == 35) = true; rw [hb]; rfl
          have hsk : skipL p = true := by
            unfold skipL; rw [HW.out]
            have : b = 35 := UInt8.toNat.inj hb
            subst this; rfl
          have hpr2 : parseRows (n + 1) r acc = RES := by have := HPR.out; rw [parseRows, if_pos hsk] at this; exact this
          have HP2 := Lib.hid hpr2
          have hown2 := own_below HOWN.out HB02.out
          have HO2 := Lib.hid hown2
          clear hpr2 hsk hown2 hb
          go_wp2_with fail
          go_roundw
          case rel => exact ⟨⟨rest.toArray⟩, r, acc, n + 1, rfl, by go_num, by simpa using HRR.out, HP2.out, by simp at hlen ⊢; omega, by simp at hnn ⊢; omega, by show rest.toArray.size ≤ _; rw [List.size_toArray]; omega, HO2.out, HBW.out.trans (HB02.out.mono HBW.out.size)⟩
          case measure => simp only [strSize, ByteArray.size, List.size_toArray]; exact hrl
        · have hb5 : ∀ h, ((((⟨(b :: x').toArray⟩ : ByteArray)[0]'h).toNat : Int) == 35) = false := fun _ => by show ((b.toNat : Int) == 35) = false; simp; omega
          have hsk : skipL p = false := by
            unfold skipL; rw [HW.out]
            have : b ≠ 35 := fun e => hb (by rw [e]; rfl)
            simpa using this
          cases hok : (readL (wordsL p)).2 with
          | true =>
            obtain ⟨o, ho⟩ : ∃ o, readL (wordsL p) = (o, true) := ⟨_, Prod.ext rfl hok⟩
            have hpr2 : parseRows (n + 1) r (acc ++ [o]) = RES := by rw [← parse_op p r n acc o hsk ho]; exact HPR.out
            have HP2 := Lib.hid hpr2
            have c15 := Op_yes ⟨p.toArray⟩ w2 (by show p.toArray.size ≤ _; rw [List.size_toArray]; omega) HG2.out o ho
            have hown2 := own_below HOWN.out HB02.out
            have HO2 := Lib.hid hown2
            have C15 := Lib.hid c15
            clear hpr2 hsk hb ho hok c15 hown2
            go_wp2_with fail
            refine C15.out.mono ?_
            rintro e w3 ⟨rfl, hb3⟩
            have HB3 := Lib.hid hb3
            have hown3 := own_below HO2.out hb3
            have HO3 := Lib.hid hown3
            clear hb3 hown3
            have hal : ¬ ((512 : Int) ≤ (acc.length : Int)) := by simp at hlen ⊢; omega
            obtain ⟨d, df, nm, tx, m0, m1, m2, m3⟩ := o
            have hop : opCells ⟨d, df, nm, tx, m0, m1, m2, m3⟩ = #[.int .u8 d, .bool df, str nm, str tx, .int .i64 m0, .int .i64 m1, .int .i64 m2, .int .i64 m3] := rfl
            rw [hop]
            have HOP := Lib.hid hop
            clear hop
            have hnb := Blk.new (w3.alloc (.cells #[.int .u8 d, .bool df, str nm, str tx, .int .i64 m0, .int .i64 m1, .int .i64 m2, .int .i64 m3] 33)) 33 #[.int .u8 d, .bool df, str nm, str tx, .int .i64 m0, .int .i64 m1, .int .i64 m2, .int .i64 m3]
            have hsz3 : (w3.alloc (.cells #[.int .u8 d, .bool df, str nm, str tx, .int .i64 m0, .int .i64 m1, .int .i64 m2, .int .i64 m3] 33)).heap.size = w3.heap.size + 1 := by simp
            rw [hsz3] at hnb
            have HNB := Lib.hid hnb
            clear hnb hsz3
            go_wp2_with (at_builtin; refine wpList_append_own _ rfl _ _ 52 rfl w.heap.size 33 i0 z0 8 72 Tryz.underlying52 HI.out HZ0.out HZ1.out HZ2.out HZS.out (by decide) _ _ _ rfl ((HO3.out.alloc _).alloc _) ⟨w3.heap.size + 1, 0, none⟩ 1 1 (opCells ⟨d, df, nm, tx, m0, m1, m2, m3⟩).toList rfl rfl ?c1 ?c2 ?c3 ?c4 ?c5 ?_)
            case c1 =>
              intro j u hj
              rw [add_lit0]
              exact (HNB.out.cell j).trans (by rw [← hj, Array.getElem?_toList]; rfl)
            case c2 => exact opCells_one _
            case c3 => unfold maxLen; simp at hlen; omega
            case c4 => simp at hlen; omega
            case c5 => simp; have := HBW.out.size; have := HB02.out.size; have := HB3.out.size; omega
            intro v' w4 hown4 hgrow _
            have hb3w : Below w.heap.size w w3 := HBW.out.trans ((HB02.out.trans (HB3.out.mono HB02.out.size)).mono HBW.out.size)
            have hb4 := ((hb3w.alloc hb3w.size (.cells #[.int .u8 d, .bool df, str nm, str tx, .int .i64 m0, .int .i64 m1, .int .i64 m2, .int .i64 m3] 33)).alloc (by simp; have := hb3w.size; omega) (.cells #[.int .u8 d, .bool df, str nm, str tx, .int .i64 m0, .int .i64 m1, .int .i64 m2, .int .i64 m3] 33)).grown hgrow (by simp; have := hb3w.size; omega) (fun k hk => (HO3.out.lt k hk).1)
            have hown5 : w4.ownsRow w.heap.size 33 8 v' (acc ++ [OpL.mk d df nm tx m0 m1 m2 m3]).length (opsCells (acc ++ [OpL.mk d df nm tx m0 m1 m2 m3])) := by
              rw [opsCells_snoc, List.length_append]; exact hown4
            have HB4 := Lib.hid hb4
            have HO5 := Lib.hid hown5
            clear hgrow hown4 hb3w hb4 hown5
            go_wp2_with fail
            go_roundw
            case rel => exact ⟨⟨rest.toArray⟩, r, acc ++ [OpL.mk d df nm tx m0 m1 m2 m3], n + 1, rfl, by go_num, by simpa using HRR.out, HP2.out, by simp at hlen ⊢; omega, by simp at hnn ⊢; omega, by show rest.toArray.size ≤ _; rw [List.size_toArray]; omega, HO5.out, HB4.out⟩
            case measure => simp only [strSize, ByteArray.size, List.size_toArray]; exact hrl
          | false =>
            have hpr2 : ([], n, 320) = RES := by rw [← parse_bad p r n acc hsk hok]; exact HPR.out
            have HP2 := Lib.hid hpr2
            have c15 := Op_no ⟨p.toArray⟩ w2 (by show p.toArray.size ≤ _; rw [List.size_toArray]; omega) HG2.out hok
            have C15 := Lib.hid c15
            clear hpr2 hsk hb hok c15
            go_wp2_with fail
            refine C15.out.mono ?_
            rintro e w3 ⟨rfl, hb3⟩
            have hb03 := HB02.out.trans (hb3.mono HB02.out.size)
            have hpost : ParsePost ([], n, 320) w (.returned (.tuple #[.slice none 0 0, .int .i64 n, .int .i64 320])) (w3.alloc (.cells #[.int .u8 (0:Nat), .bool false, str [], str [], .int .i64 0, .int .i64 0, .int .i64 0, .int .i64 0] 33)) :=
              ⟨none, 0, rfl, Reads.none_, HBW.out.trans ((hb03.alloc hb03.size _).mono HBW.out.size)⟩
            have HPOST := Lib.hid hpost
            clear hb03 hb3 hpost
            have hop : opCells zeroOp = #[.int .u8 (0:Nat), .bool false, str [], str [], .int .i64 0, .int .i64 0, .int .i64 0, .int .i64 0] := rfl
            rw [hop]
            clear hop
            go_wp2_with fail
            go_ret3
            rw [← HP2.out]
            exact HPOST.out
end Go.Proofs.YtadncponjpdcmaaGreatDoor

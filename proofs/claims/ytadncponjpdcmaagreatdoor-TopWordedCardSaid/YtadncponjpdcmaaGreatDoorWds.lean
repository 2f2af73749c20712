/-
  lines.words: walked: a line's words.
-/
import Derived.Test.YtadncponjpdcmaaGreatDoorLine
import Derived.Lib.SliceRun
namespace Go.Proofs.YtadncponjpdcmaaGreatDoor
open Go.RowKit

def nonE (p : ByteArray) : Bool := !p.toList.isEmpty
def wordsL (l : Bs) : List Bs := (split1 32 l).filter fun p => !p.isEmpty

set_option maxHeartbeats 1000000 in
theorem isE_any (s : ByteArray) (w : World) : Calls Tryz.prog 66 #[.string s] w fun e w' => e = .returned (.bool (!nonE s)) ∧ w = w' := by
  have h : s.toList.isEmpty = !nonE s := by unfold nonE; simp
  generalize (!nonE s) = R at h ⊢
  go_enter Tryz.func66, Tryz.ntmps66
  go_wp2
  go_ret
  exact ⟨rfl, rfl⟩

/-- Where the first empty one is, or -1. -/
def IdxPost (ps : List ByteArray) (w : World) (e : Ending) (w' : World) : Prop :=
  w = w' ∧ ((e = .returned (.int .i64 (-1)) ∧ ∀ p ∈ ps, nonE p = true) ∨ ∃ k : Nat, k < ps.length ∧ e = .returned (.int .i64 k) ∧ (∀ p ∈ ps.take k, nonE p = true) ∧ ∀ p, ps[k]? = some p → nonE p = false)

theorem row_at {w : World} {g : Nat} {ps : List ByteArray} (h : Blk w g 9 (ps.map Value.string).toArray) (k : Nat) (hk : k < ps.length) : w.cell? ⟨g, k, none⟩ = some (.string ps[k]) := by
  rw [h.cell k]; simp [hk]

set_option maxHeartbeats 2000000 in
set_option maxRecDepth 100000 in
theorem idx_any (g : Nat) (ps : List ByteArray) (w : World) (hn : ps.length ≤ 2000000000) (h : Blk w g 9 (ps.map Value.string).toArray) :
    Calls Tryz.prog 83 #[.slice (some ⟨g, 0, none⟩) ps.length ps.length, .func (.func 66) #[] #[]] w (IdxPost ps w) := by
  have H := Lib.hid h
  clear h
  go_enter Tryz.func83, Tryz.ntmps83
  go_wp2
  go_loop [8] (fun i => ∃ k : Nat, k ≤ ps.length ∧ i = .int .i64 k ∧ ∀ p ∈ ps.take k, nonE p = true) (fun i => ps.length - (intOf i).toNat)
  case atStart => exact ⟨0, Nat.zero_le _, rfl, by simp⟩
  case round =>
    obtain ⟨k, hk, rfl, ha⟩ := hrel
    have HA := Lib.hid ha
    clear ha
    by_cases hlt : k < ps.length
    · have hc := row_at H.out k hlt
      obtain ⟨p, hp⟩ : ∃ p, ps[k] = p := ⟨_, rfl⟩
      rw [hp] at hc
      have HP := Lib.hid hp
      clear hp
      cases hne : nonE p with
      | true =>
        have c66 : ∀ wx, Calls Tryz.prog 66 #[.string p] wx fun e w' => e = .returned (.bool false) ∧ wx = w' := by
          intro wx; have := isE_any p wx; rw [hne] at this; exact this
        have C66 := Lib.hid c66
        have HNE := Lib.hid hne
        clear c66 hne
        go_wp2_with fail
        refine (C66.out _).mono ?_
        rintro e w1 ⟨rfl, rfl⟩
        go_wp2
        go_round
        case rel =>
          refine ⟨k + 1, by omega, by go_num, ?_⟩
          intro q hq
          rw [List.take_succ_eq_append_getElem hlt, List.mem_append] at hq
          rcases hq with hq | hq
          · exact HA.out q hq
          · have : q = p := by rw [← HP.out]; simpa using hq
            rw [this]; exact HNE.out
        case measure => simp [intOf]; omega
      | false =>
        have c66 : ∀ wx, Calls Tryz.prog 66 #[.string p] wx fun e w' => e = .returned (.bool true) ∧ wx = w' := by
          intro wx; have := isE_any p wx; rw [hne] at this; exact this
        have C66 := Lib.hid c66
        have HNE := Lib.hid hne
        clear c66 hne
        go_wp2_with fail
        refine (C66.out _).mono ?_
        rintro e w1 ⟨rfl, rfl⟩
        go_wp2
        go_ret
        refine ⟨rfl, .inr ⟨k, hlt, rfl, HA.out, ?_⟩⟩
        intro q hq
        have : q = p := by rw [← HP.out]; rw [List.getElem?_eq_getElem hlt] at hq; exact (Option.some.inj hq).symm
        rw [this]; exact HNE.out
    · obtain rfl : k = ps.length := by omega
      rw [List.take_length] at HA
      go_wp2
      go_ret
      exact ⟨rfl, .inl ⟨rfl, HA.out⟩⟩


theorem Blk.setCells {g : Nat} {t : TypeId} : ∀ (vs : List Value) (o : Nat) (w : World) (cur : Array Value), Blk w g t cur → ∃ cur', Blk (w.setCells g o vs) g t cur' ∧ cur'.size = cur.size ∧ ∀ j, j < o → cur'[j]? = cur[j]?
  | [], o, w, cur, h => ⟨cur, h, rfl, fun _ _ => rfl⟩
  | v :: r, o, w, cur, h => by
    obtain ⟨c, h1, h2, h3⟩ := Blk.setCells r (o + 1) (w.setCell ⟨g, o, none⟩ v) _ (h.set_ o v)
    refine ⟨c, h1, by rw [h2]; simp, fun j hj => ?_⟩
    rw [h3 j (by omega), Array.getElem?_setIfInBounds]
    rw [if_neg (by omega)]
theorem Keep.setCells {S : Nat → Prop} {g : Nat} (hg : ¬ S g) : ∀ (vs : List Value) (o : Nat) (w0 w : World), Keep S w0 w → Keep S w0 (w.setCells g o vs)
  | [], _, _, _, h => h
  | v :: r, o, w0, w, h => Keep.setCells hg r (o + 1) w0 _ (h.setCell (p := ⟨g, o, none⟩) hg v)

/-- What is left of a row of strings: those that are not empty, ahead. -/
def DelPost (g : Nat) (ps : List ByteArray) (w : World) (e : Ending) (w' : World) : Prop :=
  e = .returned (.slice (some ⟨g, 0, none⟩) (ps.filter nonE).length ps.length) ∧ Keep (fun i => i ≠ g) w w' ∧
    ∃ cur, Blk w' g 9 cur ∧ cur.size = ps.length ∧ ∀ j (hj : j < (ps.filter nonE).length), cur[j]? = some (.string (ps.filter nonE)[j])

set_option maxHeartbeats 4000000 in
set_option maxRecDepth 100000 in
theorem del_any (g : Nat) (ps : List ByteArray) (w : World) (hn : ps.length ≤ 2000000000) (h : Blk w g 9 (ps.map Value.string).toArray) :
    Calls Tryz.prog 65 #[.slice (some ⟨g, 0, none⟩) ps.length ps.length, .func (.func 66) #[] #[]] w (DelPost g ps w) := by
  have c83 := idx_any g ps w hn h
  have H := Lib.hid h
  have C := Lib.hid c83
  clear h c83
  go_enter Tryz.func65, Tryz.ntmps65
  go_wp2_with fail
  refine C.out.mono ?_
  rintro e w1 ⟨rfl, hpost⟩
  rcases hpost with ⟨rfl, hall⟩ | ⟨k0, hk0, rfl, ha, hb⟩
  · have hf : ps.filter nonE = ps := List.filter_eq_self.2 hall
    have HF := Lib.hid hf
    clear hall hf
    go_wp2
    go_ret
    unfold DelPost
    rw [HF.out]
    exact ⟨rfl, Keep.refl _ _, _, H.out, by simp, fun j hj => by simp [hj]⟩
  · have hne1 : ((k0 : Int) == -1) = false := beq_eq_false_iff_ne.2 (by omega)
    have hf0 : (ps.take k0).filter nonE = ps.take k0 := List.filter_eq_self.2 ha
    have hf1 : (ps.take (k0 + 1)).filter nonE = ps.take k0 := by
      rw [List.take_succ_eq_append_getElem hk0, List.filter_append, hf0]
      have := hb ps[k0] (List.getElem?_eq_getElem hk0)
      simp [this]
    have HF1 := Lib.hid hf1
    clear ha hb hf0 hf1
    go_wp2
    go_loopw [5, 6] (fun i j wr => ∃ (k : Nat) (cur : Array Value), k ≤ ps.length ∧ j = .int .i64 k ∧ i = .int .i64 ((ps.take k).filter nonE).length ∧ ((ps.take k).filter nonE).length < k ∧
        Blk wr g 9 cur ∧ cur.size = ps.length ∧ (∀ j (hj : j < ((ps.take k).filter nonE).length), cur[j]? = some (.string ((ps.take k).filter nonE)[j])) ∧ (∀ t (ht : t < ps.length), k ≤ t → cur[t]? = some (.string ps[t])) ∧ Keep (fun i => i ≠ g) w wr) (fun _ j _ => ps.length - (intOf j).toNat)
    case atStart =>
      refine ⟨k0 + 1, _, by omega, by go_num, ?_, ?_, H.out, by simp, ?_, fun t ht _ => by simp [ht], Keep.refl _ _⟩
      · rw [HF1.out]; simp; omega
      · rw [HF1.out]; simp; omega
      · rw [HF1.out]
        intro j hj
        have : j < ps.length := by simp at hj; omega
        simp [this]
    case round =>
      obtain ⟨k, cur, hk, rfl, rfl, hlt2, hB, hsz, hlo, hhi, hK⟩ := hrel
      obtain ⟨m, hm⟩ : ∃ m, ((ps.take k).filter nonE).length = m := ⟨_, rfl⟩
      rw [hm] at hlt2 ⊢
      have HM := Lib.hid hm
      have HLO := Lib.hid hlo
      have HHI := Lib.hid hhi
      have HB := Lib.hid hB
      have HK := Lib.hid hK
      have HSZ := Lib.hid hsz
      have fm : wr.frozen? ⟨g, m, none⟩ = false := hB.frozen m
      clear hm hlo hhi hB hK hsz
      by_cases hlt : k < ps.length
      · have ck : wr.cell? ⟨g, k, none⟩ = some (.string ps[k]) := (HB.out.cell k).trans (HHI.out k hlt (Nat.le_refl _))
        obtain ⟨old, hold⟩ : ∃ old, wr.cell? ⟨g, m, none⟩ = some old := by
          rw [HB.out.cell m]
          exact ⟨_, Array.getElem?_eq_getElem (by have := HSZ.out; omega)⟩
        obtain ⟨p, hp⟩ : ∃ p, ps[k] = p := ⟨_, rfl⟩
        rw [hp] at ck
        have HP := Lib.hid hp
        clear hp
        cases hne : nonE p with
        | true =>
          have c66 : ∀ wx, Calls Tryz.prog 66 #[.string p] wx fun e w' => e = .returned (.bool false) ∧ wx = w' := by
            intro wx; have := isE_any p wx; rw [hne] at this; exact this
          have hfk : (ps.take (k + 1)).filter nonE = (ps.take k).filter nonE ++ [p] := by
            rw [List.take_succ_eq_append_getElem hlt, List.filter_append, HP.out]; simp [hne]
          have C66 := Lib.hid c66
          have HFK := Lib.hid hfk
          clear c66 hne hfk
          go_wp2_with fail
          refine (C66.out _).mono ?_
          rintro e w1 ⟨rfl, rfl⟩
          go_wp2
          go_roundw
          case rel =>
            refine ⟨k + 1, cur.setIfInBounds m (.string p), by omega, by go_num, ?_, ?_, HB.out.set_ m _, by rw [Array.size_setIfInBounds]; exact HSZ.out, ?_, ?_, HK.out.blkset (by simp) _⟩
            · rw [HFK.out, List.length_append, HM.out]; go_num
            · rw [HFK.out, List.length_append, HM.out]; simp; omega
            · rw [HFK.out]
              intro j hj
              rw [Array.getElem?_setIfInBounds]
              by_cases hjm : m = j
              · subst hjm
                rw [if_pos rfl, if_pos (by have := HSZ.out; omega)]
                rw [List.getElem_append_right (by rw [HM.out]; exact Nat.le_refl _)]
                simp [HM.out]
              · rw [if_neg hjm]
                have hj2 : j < ((ps.take k).filter nonE).length := by rw [List.length_append] at hj; simp at hj; rw [HM.out] at hj ⊢; omega
                rw [List.getElem_append_left hj2]
                exact HLO.out j hj2
            · intro t ht hkt
              rw [Array.getElem?_setIfInBounds, if_neg (by omega)]
              exact HHI.out t ht (by omega)
          case measure => simp [intOf]; omega
        | false =>
          have c66 : ∀ wx, Calls Tryz.prog 66 #[.string p] wx fun e w' => e = .returned (.bool true) ∧ wx = w' := by
            intro wx; have := isE_any p wx; rw [hne] at this; exact this
          have hfk : (ps.take (k + 1)).filter nonE = (ps.take k).filter nonE := by
            rw [List.take_succ_eq_append_getElem hlt, List.filter_append, HP.out]; simp [hne]
          have C66 := Lib.hid c66
          have HFK := Lib.hid hfk
          clear c66 hne hfk
          go_wp2_with fail
          refine (C66.out _).mono ?_
          rintro e w1 ⟨rfl, rfl⟩
          go_wp2
          go_roundw
          case rel =>
            refine ⟨k + 1, cur, by omega, by go_num, by rw [HFK.out, HM.out], by rw [HFK.out, HM.out]; omega, HB.out, HSZ.out, ?_, ?_, HK.out⟩
            · rw [HFK.out]; exact HLO.out
            · intro t ht hkt; exact HHI.out t ht (by omega)
          case measure => simp [intOf]; omega
      · obtain rfl : k = ps.length := by omega
        have hni : ¬ (ps.length = m) := by omega
        have hcl : ∀ ty, (Builtin.clear_ #[29] ty #[.slice (some ⟨g, m, none⟩) (ps.length - m) (ps.length - m)]).run Tryz.prog wr = .ok (.tuple #[]) (wr.setCells g m (List.replicate (ps.length - m) (.string ⟨#[]⟩))) :=
          fun ty => Lib.run_clear_slice wr 29 9 ty (.string ⟨#[]⟩) Tryz.underlying29 Tryz.zeroValue9 rfl rfl g m _ _ (by omega)
            (fun t ht => by rw [HB.out.cell (m + t), Array.getElem?_eq_getElem (by have := HSZ.out; omega)]; rfl) (fun t ht => HB.out.frozen _)
        go_wp2
        go_ret
        have e : ps.take ps.length = ps := List.take_length ..
        have hM := HM.out
        have hLO := HLO.out
        rw [e] at hM hLO
        obtain ⟨c2, d1, d2, d3⟩ := Blk.setCells (List.replicate (ps.length - m) (.string ⟨#[]⟩)) m wr cur HB.out
        refine ⟨by rw [hM]; rfl, Keep.setCells (by simp) _ _ _ _ HK.out, c2, d1, by rw [d2]; exact HSZ.out, ?_⟩
        intro j hj
        rw [d3 j (by omega)]
        exact hLO j hj


theorem filter_bytes (ps : List ByteArray) (l : Bs) (h : ps.map (·.data.toList) = split1 32 l) : (ps.filter nonE).map (·.data.toList) = wordsL l := by
  unfold wordsL
  rw [← h, List.filter_map]
  congr 1
  apply List.filter_congr
  intro p _
  unfold nonE
  rw [ByteArray.toList_eq]
  rfl

/-- What words hands back: a slice that reads as the words. -/
def WordsPost (ws : List Bs) (w : World) (e : Ending) (w' : World) : Prop :=
  ∃ (A : Option Addr) (n c : Nat), e = .returned (.slice A n c) ∧ Reads w' w'.heap.size 1 A n (ws.map str) ∧ n ≤ c ∧ c ≤ maxLen ∧ Below w.heap.size w w'

set_option maxHeartbeats 2000000 in
set_option maxRecDepth 100000 in
theorem words_any (s : ByteArray) (w : World) (hs : s.size ≤ 1000000000) (hG : Glob w) : Calls Tryz.prog 38 #[.string s] w (WordsPost (wordsL s.data.toList) w) := by
  have HG := Lib.hid hG
  clear hG
  go_enter Tryz.func38, Tryz.ntmps38
  go_wp2_with fail
  refine (split_parts s 32 _ hs HG.out).mono ?_
  rintro e w1 ⟨ps, hps, hn0, hn1, rfl, hw1⟩
  have hrow : Blk w1 w.heap.size 9 (ps.map Value.string).toArray := by rw [← hw1]; exact Blk.new w 9 _
  have hb : Below w.heap.size w w1 := by rw [← hw1]; exact (Below.refl _ w).alloc (Nat.le_refl _) _
  have c65 := del_any w.heap.size ps w1 (by omega) hrow
  have C65 := Lib.hid c65
  have HB := Lib.hid hb
  have HPS := Lib.hid hps
  have HROW := Lib.hid hrow
  clear hw1 hrow hb c65 hps
  go_wp2_with fail
  refine C65.out.mono ?_
  rintro e w2 ⟨rfl, hk, cur, hcur, hsz, hcells⟩
  have hres : WordsPost (wordsL s.data.toList) w (.returned (.slice (some ⟨w.heap.size, 0, none⟩) (ps.filter nonE).length ps.length)) w2 := by
    refine ⟨_, _, _, rfl, ⟨?_, ?_⟩, List.length_filter_le _ _, by unfold maxLen; omega, HB.out.trans (hk.below_of (by have := HB.out.size; omega) (by intro i hi; omega))⟩
    · rw [← filter_bytes ps _ HPS.out]; simp
    · intro _
      refine ⟨_, rfl, hcur.lt, ?_⟩
      intro j u hj
      rw [← filter_bytes ps _ HPS.out] at hj
      have hj2 : j < (ps.filter nonE).length := by
        have := (List.getElem?_eq_some_iff.1 hj).1
        simpa using this
      have ha : (⟨w.heap.size, 0, none⟩ : Addr).add j = ⟨w.heap.size, j, none⟩ := by unfold Addr.add; split <;> simp_all
      rw [ha, hcur.cell j, hcells j hj2, ← hj]
      simp [hj2]
  have HRES := Lib.hid hres
  clear hres hk hcur hsz hcells
  go_wp2
  go_ret
  exact HRES.out

end Go.Proofs.YtadncponjpdcmaaGreatDoor

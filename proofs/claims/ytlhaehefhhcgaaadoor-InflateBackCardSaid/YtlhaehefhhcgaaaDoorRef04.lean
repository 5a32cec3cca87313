/-
  The document's Makes and Codes (peatbankref04): what they return for any lengths.
-/
import Derived.Test.YtlhaehefhhcgaaaDoorHuffCodes
import Derived.Test.YtlhaehefhhcgaaaDoorHuffSpec
namespace Go.Proofs.YtlhaehefhhcgaaaDoor
open Go.RowKit
set_option linter.unusedVariables false

theorem ret_bool {b c : Bool} (h : c = b) : Ending.returned (.bool b) = .returned (.bool c) := by rw [h]
def M1 (zs : List Int) (n : Nat) (a t o i : Value) : Prop :=
  ∃ k : Nat, k ≤ n ∧ i = .int .i64 k ∧ a = .int .i64 (posn (zs.take k)) ∧ t = .int .i64 (kraft (zs.take k)) ∧ o = .bool (lastOne (zs.take k)) ∧ (zs.take k).all okLen = true

theorem makes_big {zs : List Int} (h : 288 < zs.length) : makesOf zs = false := by
  have : decide (zs.length ≤ 288) = false := by simp; omega
  simp [makesOf, this]
theorem makes_bad {zs : List Int} {k : Nat} (hk : k < zs.length) (h : zs.getD k 0 < 0 ∨ 15 < zs.getD k 0) : makesOf zs = false := by rw [makes_counts]; exact countsOk_bad hk h
theorem makes_end {zs : List Int} (h : zs.length ≤ 288) (ho : zs.all okLen = true) : makesOf zs = ((posn zs : Int) == 0 || (kraft zs == 32768 || ((posn zs : Int) == 1 && lastOne zs))) := by
  have : decide (zs.length ≤ 288) = true := by simpa using h
  simp [makesOf, this, ho]

set_option maxHeartbeats 1600000 in
theorem makes_any (zs : List Int) (A : Option Addr) (n cap : Nat) (w : World) (hr : RdI .i64 w A n zs) (hn : n ≤ 4611686018427387904) :
    Calls Tryd.prog 118 #[.slice A n cap] w fun e w' => e = .returned (.bool (makesOf zs)) ∧ w = w' := by
  have HR := Lib.hid hr
  have HL := Lib.hid hr.1
  clear hr
  by_cases hbig : 288 < n
  · have hb : decide ((288 : Int) < n) = true := by simp; omega
    have HM := Lib.hid (makes_big (zs := zs) (by have := HL.out; omega))
    go_enter Tryd.func118, Tryd.ntmps118
    go_wp2
    go_ret
    exact ⟨ret_bool HM.out, rfl⟩
  have hb : decide ((288 : Int) < n) = false := by simp; omega
  go_enter Tryd.func118, Tryd.ntmps118
  go_wp2
  go_loop [3, 4, 5, 6] (M1 zs n) (fun _ _ _ i => n - (intOf i).toNat)
  case atStart => exact ⟨0, by omega, rfl, rfl, rfl, rfl, rfl⟩
  case round =>
    obtain ⟨k, hk, rfl, rfl, rfl, rfl, hok⟩ := hrel
    have HOk := Lib.hid hok
    clear hok
    by_cases hlt : k < n
    · obtain ⟨b, off, rfl, hblt, hz⟩ := HR.out.cell (Below.refl _ _) hlt
      have hkl : k < zs.length := by have := HL.out; omega
      have HT := Lib.hid (take_snoc zs k hkl)
      have hp1 : posn (zs.take k) ≤ k := Nat.le_trans (posn_le _) (List.length_take_le _ _)
      have hk1 := kraft_bd (zs.take k)
      have hk2 : (zs.take k).length ≤ k := List.length_take_le _ _
      have HZ := Lib.hid (fun h => makes_bad (zs := zs) hkl h)
      have hltI : (k : Int) < n := by omega
      generalize zs.getD k 0 = z at *
      by_cases hneg : z < 0
      · have d1 : decide (z < 0) = true := by simpa using hneg
        have HM := Lib.hid (HZ.out (.inl hneg))
        go_wp2
        go_ret
        exact ⟨ret_bool HM.out, rfl⟩
      have d1 : decide (z < 0) = false := by simp; omega
      by_cases hbg : 15 < z
      · have d2 : decide (15 < z) = true := by simpa using hbg
        have HM := Lib.hid (HZ.out (.inr hbg))
        go_wp2
        go_ret
        exact ⟨ret_bool HM.out, rfl⟩
      have d2 : decide (15 < z) = false := by simp; omega
      clear HZ
      by_cases hpos : 0 < z
      · have hpw := pow_bd (15 - z).toNat (by omega)
        go_wp2
        go_round
        case rel =>
          refine ⟨k + 1, by omega, by go_num, ?_, ?_, ?_, ?_⟩
          · rw [HT.out, posn_snoc, if_pos hpos]; go_num
          · rw [HT.out, kraft_snoc, if_pos hpos]
          · rw [HT.out, lastOne_snoc, if_pos hpos]
          · rw [HT.out, List.all_append, HOk.out]; simp [okLen]; omega
        case measure => simp [intOf]; omega
      · go_wp2
        go_round
        case rel =>
          refine ⟨k + 1, by omega, by go_num, ?_, ?_, ?_, ?_⟩
          · rw [HT.out, posn_snoc, if_neg hpos]; simp
          · rw [HT.out, kraft_snoc, if_neg hpos]; simp
          · rw [HT.out, lastOne_snoc, if_neg hpos]
          · rw [HT.out, List.all_append, HOk.out]; simp [okLen]; omega
        case measure => simp [intOf]; omega
    · obtain rfl : k = n := by omega
      have HK := Lib.hid (show zs.take k = zs from List.take_of_length_le (by have := HL.out; omega))
      rw [HK.out] at HOk ⊢
      have HM := Lib.hid (makes_end (zs := zs) (by have := HL.out; omega) HOk.out)
      have h3 : ((posn zs : Int) == 0) = true ∨ ((posn zs : Int) == 0) = false := by cases ((posn zs : Int) == 0) <;> simp
      have h4 : (kraft zs == 32768) = true ∨ (kraft zs == 32768) = false := by cases (kraft zs == 32768) <;> simp
      have h5 : ((posn zs : Int) == 1) = true ∨ ((posn zs : Int) == 1) = false := by cases ((posn zs : Int) == 1) <;> simp
      rcases h3 with h3 | h3
      · rw [h3] at HM
        go_wp2
        go_ret
        exact ⟨ret_bool (HM.out.trans (by simp)), rfl⟩
      rcases h4 with h4 | h4
      · rw [h3, h4] at HM
        go_wp2
        go_ret
        exact ⟨ret_bool (HM.out.trans (by simp)), rfl⟩
      rcases h5 with h5 | h5
      · rw [h3, h4, h5] at HM
        go_wp2
        go_ret
        exact ⟨ret_bool (HM.out.trans (by simp)), rfl⟩
      · rw [h3, h4, h5] at HM
        go_wp2
        go_ret
        exact ⟨ret_bool (HM.out.trans (by simp)), rfl⟩

/-! ### Codes -/
/-- Where the document's count stands: ahead of symbol i, in the round of length n. -/
def CSt (zs : List Int) (n i : Nat) (code last : Int) : Prop :=
  (last = 0 ∧ code = -1 ∧ firstAt zs n + cnt (zs.take i) n = 0) ∨ (∃ la : Nat, last = la ∧ 1 ≤ la ∧ la ≤ n ∧ 0 ≤ code ∧ (code + 1) * 2 ^ (n - la) = firstAt zs n + cnt (zs.take i) n)
def outn (zs : List Int) (n i j : Nat) : Int := if 0 < zs.getD j 0 ∧ (zs.getD j 0 < n ∨ zs.getD j 0 = n ∧ j < i) then codeAt zs j else 0
def outnL (zs : List Int) (m n i : Nat) : List Value := (List.range m).map fun j => Value.int .i64 (outn zs n i j)
theorem cst_bd {zs : List Int} {n i : Nat} {code last : Int} (h : CSt zs n i code last) (hz : zs.length ≤ 288) (hn : n ≤ 16) : -1 ≤ code ∧ code ≤ 40000000 ∧ 0 ≤ last ∧ last ≤ n := by
  have h1 := firstAt_bd' zs hz n hn
  have h2 := cnt_le (zs.take i) n
  have h3 : (zs.take i).length ≤ zs.length := List.length_take_le' _ _
  rcases h with ⟨rfl, rfl, _⟩ | ⟨la, rfl, h4, h5, h6, h7⟩
  · omega
  · have h8 : (1 : Int) ≤ 2 ^ (n - la) := by have : (0 : Int) < 2 ^ (n - la) := Int.pow_pos (by omega); omega
    have h9 : (code + 1) * 1 ≤ (code + 1) * 2 ^ (n - la) := Int.mul_le_mul_of_nonneg_left h8 (by omega)
    omega
theorem cst_start (zs : List Int) : CSt zs 1 0 (-1) 0 := .inl ⟨rfl, rfl, by simp [firstAt, cntI, cnt]⟩
theorem cst_pass {zs : List Int} {n i : Nat} {code last : Int} (h : CSt zs n i code last) (hi : i < zs.length) (hz : zs.getD i 0 ≠ (n : Int)) : CSt zs n (i + 1) code last := by
  unfold CSt at *
  rw [take_snoc zs i hi, cnt_snoc, if_neg hz]
  simpa using h
theorem cst_next {zs : List Int} {n : Nat} {code last : Int} (h : CSt zs n zs.length code last) (hn : 1 ≤ n) : CSt zs (n + 1) 0 code last := by
  have e : firstAt zs (n + 1) + cnt (zs.take 0) (n + 1) = 2 * (firstAt zs n + cnt (zs.take zs.length) n) := by
    rw [List.take_length]
    simp [firstAt, cntI, cnt, show n ≠ 0 by omega]
  rcases h with ⟨h1, h2, h3⟩ | ⟨la, h1, h2, h3, h4, h5⟩
  · exact .inl ⟨h1, h2, by rw [e, h3]; rfl⟩
  · refine .inr ⟨la, h1, h2, by omega, h4, ?_⟩
    rw [e, ← h5, show n + 1 - la = (n - la) + 1 from by omega, Int.pow_succ, ← Int.mul_assoc, Int.mul_comm]
/-- A symbol of length n is met. -/
theorem cst_hit {zs : List Int} {n i : Nat} {code last : Int} (h : CSt zs n i code last) (hi : i < zs.length) (hn : 1 ≤ n) (hz : zs.getD i 0 = (n : Int)) :
    (last = 0 → code + 1 = codeAt zs i) ∧ (0 < last → (code + 1) * 2 ^ ((n : Int) - last).toNat = codeAt zs i) ∧ CSt zs n (i + 1) (codeAt zs i) n := by
  have hc : codeAt zs i = firstAt zs n + cnt (zs.take i) n := by
    unfold codeAt
    rw [if_pos (by omega), hz]; simp
  have h0 : 0 ≤ codeAt zs i := by
    rw [hc]
    rcases h with ⟨_, _, h3⟩ | ⟨la, _, _, _, h4, h5⟩
    · omega
    · rw [← h5]; exact Int.mul_nonneg (by omega) (Int.le_of_lt (Int.pow_pos (by omega)))
  refine ⟨fun hl => ?_, fun hl => ?_, .inr ⟨n, rfl, hn, Nat.le_refl _, h0, ?_⟩⟩
  · rcases h with ⟨_, h2, h3⟩ | ⟨la, h1, h2, _⟩
    · rw [hc, h2, h3]; rfl
    · omega
  · rcases h with ⟨h1, _⟩ | ⟨la, h1, h2, h3, h4, h5⟩
    · omega
    · rw [hc, ← h5, h1, show ((n : Int) - la).toNat = n - la from by omega]
  · rw [Nat.sub_self, take_snoc zs i hi, cnt_snoc, if_pos hz, hc]; simp; omega
theorem outn_hit {zs : List Int} {m n i : Nat} (hm : i < m) (hn : 1 ≤ n) (hz : zs.getD i 0 = (n : Int)) : (outnL zs m n i).set i (.int .i64 (codeAt zs i)) = outnL zs m n (i + 1) := by
  apply List.ext_getElem
  · simp [outnL]
  · intro j h1 h2
    rw [List.getElem_set]
    simp only [outnL, List.getElem_map, List.getElem_range]
    by_cases e : i = j
    · subst e
      rw [if_pos rfl]
      unfold outn
      rw [if_pos ⟨by omega, .inr ⟨hz, by omega⟩⟩]
    · rw [if_neg e]
      congr 1
      unfold outn
      congr 1
      apply propext
      refine and_congr_right fun _ => or_congr_right (and_congr_right fun _ => ?_)
      omega
theorem outn_pass {zs : List Int} {m n i : Nat} (hz : zs.getD i 0 ≠ (n : Int)) : outnL zs m n (i + 1) = outnL zs m n i := by
  apply List.map_congr_left
  intro j _
  congr 1
  unfold outn
  congr 1
  apply propext
  refine and_congr_right fun _ => or_congr_right (and_congr_right fun hj => ?_)
  have : j ≠ i := by rintro rfl; exact hz hj
  omega
theorem outn_next {zs : List Int} {n : Nat} : outnL zs zs.length (n + 1) 0 = outnL zs zs.length n zs.length := by
  apply List.map_congr_left
  intro j hj
  have hj' : j < zs.length := by simpa using hj
  congr 1
  unfold outn
  congr 1
  apply propext
  refine and_congr_right fun _ => ?_
  omega
theorem outn_start {zs : List Int} {m : Nat} : List.replicate m (Value.int .i64 0) = outnL zs m 1 0 := by
  apply List.ext_getElem
  · simp [outnL]
  · intro j h1 h2
    simp only [outnL, List.getElem_replicate, List.getElem_map, List.getElem_range]
    congr 1
    unfold outn
    rw [if_neg (by omega)]
theorem outn_end {zs : List Int} (h : countsOk zs = true) : outnL zs zs.length 16 0 = (codesOf zs).map (Value.int .i64) := by
  unfold codesOf outnL
  rw [List.map_map]
  apply List.map_congr_left
  intro j hj
  have hj' : j < zs.length := by simpa using hj
  have h1 := okLen_of h hj'
  simp only [Function.comp]
  congr 1
  unfold outn
  by_cases h0 : 0 < zs.getD j 0
  · rw [if_pos ⟨h0, .inl (by omega)⟩]
  · rw [if_neg (fun hh => h0 hh.1)]
    unfold codeAt
    rw [if_neg h0]

def R1 (zs : List Int) (m g : Nat) (w : World) (c la nv : Value) (wr : World) : Prop :=
  ∃ (n : Nat) (code last : Int), 1 ≤ n ∧ n ≤ 16 ∧ nv = .int .i64 n ∧ c = .int .i64 code ∧ la = .int .i64 last ∧ CSt zs n 0 code last ∧ wr.ownsRow w.heap.size 3 1 (.slice (some ⟨g, 0, none⟩) m m) m (outnL zs m n 0) ∧ Below w.heap.size w wr
def R2 (zs : List Int) (m g n : Nat) (w : World) (c la iv : Value) (wr : World) : Prop :=
  ∃ (i : Nat) (code last : Int), i ≤ m ∧ iv = .int .i64 i ∧ c = .int .i64 code ∧ la = .int .i64 last ∧ CSt zs n i code last ∧ wr.ownsRow w.heap.size 3 1 (.slice (some ⟨g, 0, none⟩) m m) m (outnL zs m n i) ∧ Below w.heap.size w wr

set_option maxHeartbeats 1600000 in
theorem rcodes_any (zs : List Int) (A : Option Addr) (n cap : Nat) (w : World) (hr : RdI .i64 w A n zs) (hn : n ≤ 4611686018427387904) :
    Calls Tryd.prog 91 #[.slice A n cap] w (CodesPost zs n w) := by
  have HR := Lib.hid hr
  have HL := Lib.hid hr.1
  clear hr
  go_enter Tryd.func91, Tryd.ntmps91
  go_wp2_with fail
  refine (makes_any zs A n cap w HR.out hn).mono ?_
  rintro ev w1 ⟨rfl, rfl⟩
  rw [makes_counts]
  cases hok : countsOk zs with
  | false =>
    have HOk := Lib.hid hok
    clear hok
    go_wp2
    go_ret2
    exact codes_no HOk.out (Below.refl _ _)
  | true =>
    have HOk := Lib.hid hok
    have hn288 := len_of hok
    rw [HL.out] at hn288
    clear hok
    go_wp2_with (first
      | (refine mk_ints rfl (.tmp 13) (.tmp 13) rfl w.heap.size n _ _ rfl rfl rfl rfl (by omega) (Nat.le_refl _) ?_; intro w5 ho5 hg5; have O5 := Lib.hid ho5; have L5 := Lib.hid (bl_n (Below.refl _ _) hg5); clear ho5 hg5)
      | fail)
    go_loopw [5, 6, 7] (R1 zs n w.heap.size w) (fun _ _ i _ => 16 - (intOf i).toNat)
    case atStart => exact ⟨1, -1, 0, by omega, by omega, rfl, rfl, rfl, cst_start zs, by rw [← outn_start]; exact O5.out, L5.out⟩
    case round =>
      obtain ⟨l, code, last, hl1, hl2, rfl, rfl, rfl, hst, ho, hbel⟩ := hrel
      have HSt := Lib.hid hst
      have HO := Lib.hid ho
      have HBel := Lib.hid hbel
      clear hst ho hbel
      obtain ⟨wo, hwo⟩ : ∃ wo : World, wo = wr := ⟨_, rfl⟩
      subst hwo
      by_cases hl15 : l ≤ 15
      · have hl15I : (l : Int) ≤ 15 := by omega
        go_wp2
        go_loopw [5, 6, 8] (R2 zs n w.heap.size l w) (fun _ _ i _ => n - (intOf i).toNat)
        case atStart => exact ⟨0, code, last, by omega, rfl, rfl, rfl, HSt.out, HO.out, HBel.out⟩
        case round =>
          obtain ⟨i, code, last, hi, rfl, rfl, rfl, hst, ho, hbel⟩ := hrel
          have HSt := Lib.hid hst
          have HO := Lib.hid ho
          have HBel := Lib.hid hbel
          clear hst ho hbel
          by_cases hlt : i < n
          · have hltI : (i : Int) < n := by omega
            obtain ⟨b, off, rfl, _, hz⟩ := HR.out.cell HBel.out hlt
            have hil : i < zs.length := by have := HL.out; omega
            have bz := okLen_of HOk.out hil
            have bc := cst_bd HSt.out (by have := HL.out; omega) (by omega)
            obtain ⟨bc1, bc2, bc3, bc4⟩ := bc
            have HP := Lib.hid (fun h => cst_pass HSt.out hil h)
            have HH := Lib.hid (fun h => cst_hit HSt.out hil hl1 h)
            have HOP := Lib.hid (fun h => outn_pass (zs := zs) (m := n) (n := l) (i := i) h)
            have HOH := Lib.hid (fun h => outn_hit (zs := zs) (m := n) (n := l) (i := i) hlt hl1 h)
            generalize zs.getD i 0 = z at *
            by_cases he : z = (l : Int)
            · have d1 : (z != (l : Int)) = false := by simp [he]
              obtain ⟨h1, h2, h3⟩ := HH.out he
              have H1 := Lib.hid h1
              have H2 := Lib.hid h2
              have H3 := Lib.hid h3
              have HE := Lib.hid he
              have HOH' := Lib.hid (HOH.out he)
              clear h1 h2 h3 he HH HOH HP HOP
              have q1 := HO.out.cellAt i (by omega)
              have q2 := HO.out.frozenAt i
              have q1' : (outnL zs n l i)[i]? = some (.int .i64 (outn zs l i i)) := by simp [outnL, hlt]
              rw [q1'] at q1
              clear q1'
              by_cases hla : 0 < last
              · have hd : (code + 1) * 2 ^ ((l : Int) - last).toNat = codeAt zs i := H2.out hla
                have hcb := cst_bd H3.out (by have := HL.out; omega) (by omega)
                obtain ⟨hcb1, hcb2, _, _⟩ := hcb
                have hd0 : 0 ≤ (l : Int) - last := by omega
                generalize codeAt zs i = ci at *
                have HD := Lib.hid hd
                clear hd
                go_wp2
                go_roundw
                case rel =>
                  rw [HD.out, IntWalk.wrap64_in ci (by omega)]
                  exact ⟨i + 1, ci, l, by omega, by go_num, rfl, rfl, H3.out, by rw [← HOH'.out]; exact (HO.out.stored i _).1, HBel.out.setCell (by simp) _⟩
                case measure => simp [intOf]; omega
              · have hd : code + 1 = codeAt zs i := H1.out (by omega)
                have HD := Lib.hid hd
                clear hd
                go_wp2
                go_roundw
                case rel =>
                  refine ⟨i + 1, code + 1, l, by omega, by go_num, rfl, rfl, ?_, ?_, HBel.out.setCell (by simp) _⟩
                  · rw [HD.out]; exact H3.out
                  · rw [← HOH'.out, HD.out]; exact (HO.out.stored i _).1
                case measure => simp [intOf]; omega
            · have d1 : (z != (l : Int)) = true := by simpa using he
              go_wp2
              go_roundw
              case rel => exact ⟨i + 1, code, last, by omega, by go_num, rfl, rfl, HP.out he, by rw [HOP.out he]; exact HO.out, HBel.out⟩
              case measure => simp [intOf]; omega
          · obtain rfl : i = n := by omega
            go_wp2
            go_roundw
            case rel =>
              have hln := HL.out
              refine ⟨l + 1, code, last, by omega, by omega, by go_num, rfl, rfl, cst_next (by rw [hln]; exact HSt.out) hl1, ?_, HBel.out⟩
              have := HO.out
              rw [← hln] at this ⊢
              rw [outn_next]; exact this
            case measure => simp [intOf]; omega
      · obtain rfl : l = 16 := by omega
        go_wp2
        go_ret2
        refine codes_yes HOk.out ?_ HBel.out
        have := HO.out
        rw [← HL.out, outn_end HOk.out] at this
        rw [← HL.out]; exact this
end Go.Proofs.YtlhaehefhhcgaaaDoor

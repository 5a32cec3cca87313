/-
  HuffApart: no code begins with another one; the walk of the law.
-/
import Derived.Test.YtacidmamfkfipaaAwake4
namespace Go.Proofs.Ytacidmamfkfipaa
open Go.RowKit
set_option linter.unusedVariables false

theorem cntI_pos {zs : List Int} {l : Nat} (h : l ≠ 0) : cntI zs l = cnt zs l := by unfold cntI; rw [if_neg h]
theorem cnt_take_lt (zs : List Int) {i k : Nat} (hi : i < k) (hk : k ≤ zs.length) (l : Nat) (hz : zs.getD i 0 = (l : Int)) : cnt (zs.take i) l + 1 ≤ cnt (zs.take k) l := by
  have h1 : cnt (zs.take (i + 1)) l = cnt (zs.take i) l + 1 := by rw [take_snoc zs i (by omega), cnt_snoc, if_pos hz]
  have h2 : ∀ m, cnt (zs.take (i + 1)) l ≤ cnt (zs.take (i + 1 + m)) l := by
    intro m
    induction m with
    | zero => exact Nat.le_refl _
    | succ m ih =>
      rcases Nat.lt_or_ge (i + 1 + m) zs.length with h | h
      · have e := take_snoc zs (i + 1 + m) h
        rw [show i + 1 + (m + 1) = i + 1 + m + 1 from rfl, e, cnt_snoc (zs.take (i + 1 + m))]; omega
      · have e1 : zs.take (i + 1 + (m + 1)) = zs := List.take_of_length_le (by omega)
        rw [e1]
        rw [List.take_of_length_le h] at ih; exact ih
  have h3 := h2 (k - (i + 1))
  rw [show i + 1 + (k - (i + 1)) = k from by omega] at h3
  omega
theorem firstAt_grow (zs : List Int) (l : Nat) : ∀ m, (2 : Int) ^ (m + 1) * (firstAt zs l + cntI zs l) ≤ firstAt zs (l + m + 1)
  | 0 => by simp [firstAt]
  | m + 1 => by
    have ih := firstAt_grow zs l m
    have hc := cntI_lo zs (l + m + 1)
    have e : firstAt zs (l + (m + 1) + 1) = 2 * (firstAt zs (l + m + 1) + cntI zs (l + m + 1)) := rfl
    rw [e, show (2 : Int) ^ (m + 1 + 1) = 2 ^ (m + 1) * 2 from Int.pow_succ _ _]
    have : (2 : Int) ^ (m + 1) * 2 * (firstAt zs l + cntI zs l) = 2 * ((2 : Int) ^ (m + 1) * (firstAt zs l + cntI zs l)) := by
      rw [Int.mul_comm ((2 : Int) ^ (m + 1)) 2, Int.mul_assoc]
    omega

/-- What the law asks of two symbols: codes of one length. -/
theorem apart_same {zs : List Int} {i k : Nat} (hi : i < zs.length) (hk : k < zs.length) (hne : i ≠ k) (hz : 0 < zs.getD i 0) (he : zs.getD i 0 = zs.getD k 0) :
    (i < k → codeAt zs i < codeAt zs k) ∧ (k < i → codeAt zs k < codeAt zs i) := by
  have hl : zs.getD i 0 = ((zs.getD i 0).toNat : Int) := by omega
  have hl2 : zs.getD k 0 = ((zs.getD i 0).toNat : Int) := by omega
  unfold codeAt
  rw [if_pos hz, if_pos (by omega), ← he]
  refine ⟨fun h => ?_, fun h => ?_⟩
  · have := cnt_take_lt zs h (by omega) _ hl
    omega
  · have := cnt_take_lt zs h (by omega) _ hl2
    omega
/-- .. of different lengths: what a longer code begins with is above the shorter one. -/
theorem apart_longer {zs : List Int} {i k : Nat} (hi : i < zs.length) (hk : k < zs.length) (hz : 0 < zs.getD i 0) (hlt : zs.getD i 0 < zs.getD k 0) :
    codeAt zs i < codeAt zs k / 2 ^ (zs.getD k 0 - zs.getD i 0).toNat := by
  have hl : zs.getD i 0 = ((zs.getD i 0).toNat : Int) := by omega
  have h1 : cnt (zs.take i) (zs.getD i 0).toNat + 1 ≤ cnt zs (zs.getD i 0).toNat := by
    have := cnt_take_lt zs hi (Nat.le_refl _) _ hl
    rwa [List.take_length] at this
  have h2 := firstAt_grow zs (zs.getD i 0).toNat ((zs.getD k 0 - zs.getD i 0).toNat - 1)
  rw [show (zs.getD k 0 - zs.getD i 0).toNat - 1 + 1 = (zs.getD k 0 - zs.getD i 0).toNat from by omega,
    show (zs.getD i 0).toNat + ((zs.getD k 0 - zs.getD i 0).toNat - 1) + 1 = (zs.getD k 0).toNat from by omega, cntI_pos (by omega)] at h2
  unfold codeAt
  rw [if_pos hz, if_pos (by omega)]
  refine Int.lt_of_lt_of_le (b := firstAt zs (zs.getD i 0).toNat + cnt zs (zs.getD i 0).toNat) (by omega) ?_
  refine (Int.le_ediv_iff_mul_le (Int.pow_pos (by omega))).2 ?_
  rw [Int.mul_comm]
  omega

/-- What holds at each round of the two loops: the world has drawn alone. -/
def A1 (n : Nat) (w1 : World) (iv : Value) (wr : World) : Prop := ∃ i : Nat, i ≤ n ∧ iv = .int .i64 i ∧ Below w1.heap.size w1 wr

theorem codes_at {zs : List Int} {i : Nat} (h : i < zs.length) : (codesOf zs).getD i 0 = codeAt zs i := by simp [codesOf, h]
theorem code_bd {zs : List Int} (hok : countsOk zs = true) {i : Nat} (h : i < zs.length) : 0 ≤ codeAt zs i ∧ codeAt zs i ≤ 1000000000 := by
  have h1 := okLen_of hok h
  have h2 := len_of hok
  unfold codeAt
  split
  · have h3 := firstAt_bd' zs h2 (zs.getD i 0).toNat (by omega)
    have h4 := cnt_le (zs.take i) (zs.getD i 0).toNat
    have h5 : (zs.take i).length ≤ i := List.length_take_le _ _
    omega
  · omega

set_option maxRecDepth 100000 in
set_option maxHeartbeats 4000000 in
theorem apart_walk (zs : List Int) (A : Option Addr) (n cap : Nat) (w : World) (hr : RdI .i64 w A n zs) (hn : n ≤ 9223372036854775807) :
    Calls Try.prog 4 #[.slice A n cap] w fun e w' => e = .returned (.bool true) ∧ Below w.heap.size w w' := by
  have HR := Lib.hid hr
  have HL := Lib.hid hr.1
  clear hr
  by_cases hbig : 300 < n
  · have hb : (300 : Int) < n := by omega
    go_enter Try.func4, Try.ntmps4
    go_wp2_with (go_at_call 10; refine (awake4 _).mono ?_; rintro ev w1 ⟨rfl, hb1⟩; have HB1 := Lib.hid hb1; clear hb1)
    go_ret
    exact ⟨rfl, HB1.out⟩
  have hb : ¬ (300 : Int) < n := by omega
  go_enter Try.func4, Try.ntmps4
  go_wp2_with (go_at_call 10; refine (awake4 _).mono ?_; rintro ev w1 ⟨rfl, hb1⟩; have HB1 := Lib.hid hb1; clear hb1)
  refine (codes_any zs A n cap w1 (HR.out.below HB1.out) (by omega)).mono ?_
  rintro ev w2 (⟨_, rfl, hb2⟩ | ⟨hok, A2, c2, rfl, ho2, hb2⟩)
  · have HB2 := Lib.hid (below_chain HB1.out hb2)
    clear hb2
    go_wp2
    go_ret
    exact ⟨rfl, HB2.out⟩
  have HB2 := Lib.hid (below_chain HB1.out hb2)
  have O2 := Lib.hid ho2
  have HOk := Lib.hid hok
  clear hb2 ho2 hok
  go_wp2
  go_loopw [5] (A1 n w2) (fun i _ => n - (intOf i).toNat)
  case atStart => exact ⟨0, by omega, rfl, Below.refl _ _⟩
  case round =>
    obtain ⟨i, hi, rfl, hbel⟩ := hrel
    have HBi := Lib.hid hbel
    clear hbel
    obtain ⟨wo, hwo⟩ : ∃ wo : World, wo = wr := ⟨_, rfl⟩
    subst hwo
    by_cases hlt : i < n
    · have hltI : (i : Int) < n := by omega
      go_wp2
      go_loopw [6] (A1 n w2) (fun i _ => n - (intOf i).toNat)
      case atStart => exact ⟨0, by omega, rfl, HBi.out⟩
      case round =>
        obtain ⟨k, hk, rfl, hbel⟩ := hrel
        have HBk := Lib.hid hbel
        clear hbel
        by_cases hltk : k < n
        · have hltkI : (k : Int) < n := by omega
          have hln := HL.out
          have hil : i < zs.length := by omega
          have hkl : k < zs.length := by omega
          obtain ⟨b, off, rfl, _, hci⟩ := HR.out.cell (below_chain HB2.out HBk.out) hlt
          obtain ⟨b', off', he, _, hck⟩ := HR.out.cell (below_chain HB2.out HBk.out) hltk
          simp only [Option.some.injEq, Addr.mk.injEq, and_true] at he
          obtain ⟨rfl, rfl⟩ := he
          obtain ⟨g, rfl, _, hcc⟩ := own_cells (own_below O2.out HBk.out) (by omega)
          have hdi := hcc i hlt
          have hdk := hcc k hltk
          rw [codes_at hil] at hdi
          rw [codes_at hkl] at hdk
          have bi := okLen_of HOk.out hil
          have bk := okLen_of HOk.out hkl
          have ci := code_bd HOk.out hil
          have ck := code_bd HOk.out hkl
          have HS := Lib.hid (fun h1 h2 h3 => apart_same (zs := zs) hil hkl h1 h2 h3)
          have HG := Lib.hid (fun h1 h2 => apart_longer (zs := zs) hil hkl h1 h2)
          clear hcc hln
          generalize zs.getD i 0 = zi at *
          generalize zs.getD k 0 = zk at *
          generalize codeAt zs i = xi at *
          generalize codeAt zs k = xk at *
          by_cases hik : i = k
          · have d1 : ((i : Int) == k) = true := by simp; omega
            have HIK := Lib.hid hik
            clear hik
            go_wp2
            go_quiet (fail)
            go_wp2
            go_roundw
            case rel => exact ⟨k + 1, by omega, by go_num, below_drewN HBk.out _⟩
            case measure => simp [intOf]; omega
          have d1 : ((i : Int) == k) = false := by simp; omega
          by_cases hzi : zi = 0
          · have d2 : (zi == 0) = true := by simpa using hzi
            have HZ := Lib.hid hzi
            clear hzi
            go_wp2
            go_quiet (fail)
            go_wp2
            go_roundw
            case rel => exact ⟨k + 1, by omega, by go_num, below_drewN HBk.out _⟩
            case measure => simp [intOf]; omega
          have d2 : (zi == 0) = false := by simpa using hzi
          by_cases hzk : zk = 0
          · have d3 : (zk == 0) = true := by simpa using hzk
            have HZ := Lib.hid hzk
            clear hzk
            go_wp2
            go_quiet (fail)
            go_wp2
            go_roundw
            case rel => exact ⟨k + 1, by omega, by go_num, below_drewN HBk.out _⟩
            case measure => simp [intOf]; omega
          have d3 : (zk == 0) = false := by simpa using hzk
          by_cases hgt : zk < zi
          · have d4 : decide (zk < zi) = true := by simpa using hgt
            go_wp2
            go_quiet (fail)
            go_wp2
            go_roundw
            case rel => exact ⟨k + 1, by omega, by go_num, below_drewN HBk.out _⟩
            case measure => simp [intOf]; omega
          have d4 : decide (zk < zi) = false := by simpa using hgt
          go_wp2
          go_quiet (fail)
          go_wp2
          have hsub : IntKind.i64.wrap (zk - zi) = zk - zi := IntWalk.i64_in _ (by omega)
          have hsub0 : (0 : Int) ≤ zk - zi := by omega
          go_quiet (fail)
          clear hsub hsub0
          go_wp2
          have hfact : (zi = zk ∧ (xk / 2 ^ (zk - zi).toNat) = xk) ∨ (zi < zk ∧ xi < xk / 2 ^ (zk - zi).toNat) := by
            rcases Int.lt_or_le zi zk with h | h
            · exact .inr ⟨h, HG.out (by omega) h⟩
            · have e : zi = zk := by omega
              refine .inl ⟨e, ?_⟩
              rw [e, Int.sub_self]; simp
          generalize xk / 2 ^ (zk - zi).toNat = sh at *
          rcases hfact with ⟨he, hsh⟩ | ⟨hz, hsh⟩
          · have hs := HS.out hik (by omega) he
            have e1 : (zi == zk) = true := by simpa using he
            have e2 : decide (zi < zk) = false := by simp; omega
            rcases Nat.lt_or_ge i k with hlo | hlo
            · have hx := hs.1 hlo
              have e3 : decide (xi < xk) = true := by simpa using hx
              have e4 : decide ((i : Int) < k) = true := by simp; omega
              have e5 : (sh == xi) = false := by simp; omega
              clear hs he hsh
              go_quiet (fail)
              go_wp2
              go_roundw
              case rel => exact ⟨k + 1, by omega, by go_num, below_drewN HBk.out _⟩
              case measure => simp [intOf]; omega
            · have hx := hs.2 (by omega)
              have e3 : decide (xi < xk) = false := by simp; omega
              have e4 : decide ((i : Int) < k) = false := by simp; omega
              have e5 : (sh == xi) = false := by simp; omega
              clear hs he hsh
              go_quiet (fail)
              go_wp2
              go_roundw
              case rel => exact ⟨k + 1, by omega, by go_num, below_drewN HBk.out _⟩
              case measure => simp [intOf]; omega
          · have e1 : (zi == zk) = false := by simp; omega
            have e2 : decide (zi < zk) = true := by simpa using hz
            have e3 : decide (sh < xi) = false := by simp; omega
            have e5 : (sh == xi) = false := by simp; omega
            go_quiet (fail)
            go_wp2
            go_roundw
            case rel => exact ⟨k + 1, by omega, by go_num, below_drewN HBk.out _⟩
            case measure => simp [intOf]; omega
        · go_wp2
          go_roundw
          case rel => exact ⟨i + 1, by omega, by go_num, HBk.out⟩
          case measure => simp [intOf]; omega
    · go_wp2
      go_ret
      exact ⟨rfl, below_chain HB2.out HBi.out⟩
end Go.Proofs.Ytacidmamfkfipaa

/-
  slices.SortStableFunc at packs, rows of any size that the program has.
-/
import Derived.Test.YtlhaehefhhcgaaaDoorSymMid
import Derived.Test.YtlhaehefhhcgaaaDoorSortIns
namespace Go.Proofs.YtlhaehefhhcgaaaDoor
open Go.RowKit
set_option linter.unusedVariables false

/-- The stretch j of bs elements is sorted. -/
def Blk1 (bs : Nat) (t : List PV) (j : Nat) : Prop := Srt ((t.drop (j * bs)).take bs)
theorem take_drop_split (t : List PV) (a b : Nat) (hab : a ≤ b) (hb : b ≤ t.length) : t = t.take a ++ (t.drop a).take (b - a) ++ t.drop b := by
  have h1 : (t.drop a).take (b - a) ++ t.drop b = t.drop a := by
    have : t.drop b = (t.drop a).drop (b - a) := by rw [List.drop_drop]; congr 1; omega
    rw [this, List.take_append_drop]
  rw [List.append_assoc, h1, List.take_append_drop]
/-- A stretch is put in place of another one of its length: what lies elsewhere stays. -/
theorem seg_else {x s s' y : List PV} (h : s.length = s'.length) {i n : Nat} (hi : i + n ≤ x.length ∨ x.length + s.length ≤ i) : ((x ++ s' ++ y).drop i).take n = ((x ++ s ++ y).drop i).take n := by
  apply List.ext_getElem?
  intro j
  rw [List.getElem?_take, List.getElem?_take, List.getElem?_drop, List.getElem?_drop]
  by_cases hj : j < n
  · rw [if_pos hj, if_pos hj]
    rcases hi with hi | hi
    · rw [List.append_assoc, List.append_assoc, List.getElem?_append_left (by omega), List.getElem?_append_left (by omega)]
    · rw [List.getElem?_append_right (by rw [List.length_append]; omega), List.getElem?_append_right (by rw [List.length_append]; omega), List.length_append, List.length_append, h]
  · rw [if_neg hj, if_neg hj]
theorem seg_here {x s y : List PV} {i n : Nat} (hi : i = x.length) (hn : n = s.length) : ((x ++ s ++ y).drop i).take n = s := by
  subst hi hn
  rw [List.append_assoc, List.drop_left, List.take_left]
theorem srt_nil : Srt ([] : List PV) := List.Pairwise.nil
theorem blk_round {x s s' y : List PV} {bs k : Nat} (hb : ∀ j, j < k → Blk1 bs (x ++ s ++ y) j) (hx : x.length = k * bs) (hs : s.length = bs) (hl : s.length = s'.length) (h : Srt s') : ∀ j, j < k + 1 → Blk1 bs (x ++ s' ++ y) j := by
  intro j hj
  unfold Blk1
  rcases Nat.lt_or_ge j k with hlt | hge
  · have h1 : (j + 1) * bs ≤ k * bs := Nat.mul_le_mul_right _ hlt
    rw [Nat.succ_mul] at h1
    rw [seg_else hl (.inl (by omega))]
    exact hb j hlt
  · obtain rfl : j = k := by omega
    rw [seg_here hx.symm (by omega)]
    exact h
theorem blk_last {x s s' : List PV} {bs k : Nat} (hb : ∀ j, j < k → Blk1 bs (x ++ s) j) (hx : x.length = k * bs) (hs : s.length ≤ bs) (hl : s.length = s'.length) (h : Srt s') : ∀ j, Blk1 bs (x ++ s') j := by
  intro j
  unfold Blk1
  rcases Nat.lt_trichotomy j k with hlt | rfl | hgt
  · have h1 : (j + 1) * bs ≤ k * bs := Nat.mul_le_mul_right _ hlt
    rw [Nat.succ_mul] at h1
    have h2 := seg_else (x := x) (s := s) (s' := s') (y := []) hl (i := j * bs) (n := bs) (.inl (by omega))
    rw [List.append_nil, List.append_nil] at h2
    rw [h2]
    exact hb j hlt
  · rw [← hx, List.drop_left, List.take_of_length_le (by omega)]
    exact h
  · have h1 : (k + 1) * bs ≤ j * bs := Nat.mul_le_mul_right _ hgt
    rw [Nat.succ_mul] at h1
    rw [List.drop_of_length_le (by rw [List.length_append]; omega), List.take_nil]
    exact srt_nil
theorem blk_keep {x s s' y : List PV} {bs k : Nat} (hb : ∀ j, 2 * k ≤ j → Blk1 bs (x ++ s ++ y) j) (hx : x.length = k * (2 * bs)) (hs : s.length = 2 * bs) (hl : s.length = s'.length) : ∀ j, 2 * (k + 1) ≤ j → Blk1 bs (x ++ s' ++ y) j := by
  intro j hj
  unfold Blk1
  have h1 : (2 * (k + 1)) * bs ≤ j * bs := Nat.mul_le_mul_right _ hj
  have h2 : 2 * (k + 1) * bs = k * (2 * bs) + 2 * bs := by rw [← Nat.succ_mul, Nat.mul_comm 2 (k + 1), Nat.mul_assoc]
  rw [seg_else hl (.inr (by omega))]
  exact hb j (by omega)
theorem blk_all {bs : Nat} {t : List PV} (h : ∀ j, Blk1 bs t j) (hn : t.length ≤ bs) : Srt t := by
  have := h 0
  unfold Blk1 at this
  rwa [Nat.zero_mul, List.drop_zero, List.take_of_length_le hn] at this

def T1 (s : List PV) (w : World) (g n cap : Nat) (av bv : Value) (wr : World) : Prop :=
  ∃ (k a : Nat) (t : List PV), a = k * 20 ∧ av = .int .i64 a ∧ bv = .int .i64 (a + 20 : Nat) ∧ a ≤ n ∧ StEq s t ∧ (∀ j, j < k → Blk1 20 t j) ∧ PRow wr g n cap t ∧ w.grownBy wr (some g)
def T2 (s : List PV) (w : World) (g n cap : Nat) (sv : Value) (wr : World) : Prop :=
  ∃ (bs : Nat) (t : List PV), sv = .int .i64 bs ∧ 20 ≤ bs ∧ bs ≤ 20 + 2 * n ∧ StEq s t ∧ (∀ j, Blk1 bs t j) ∧ PRow wr g n cap t ∧ w.grownBy wr (some g)
def T3 (s : List PV) (bs : Nat) (w : World) (g n cap : Nat) (av bv : Value) (wr : World) : Prop :=
  ∃ (k a : Nat) (t : List PV), a = k * (2 * bs) ∧ av = .int .i64 a ∧ bv = .int .i64 (a + 2 * bs : Nat) ∧ a ≤ n ∧ StEq s t ∧ (∀ j, j < k → Blk1 (2 * bs) t j) ∧ (∀ j, 2 * k ≤ j → Blk1 bs t j) ∧ PRow wr g n cap t ∧ w.grownBy wr (some g)
theorem small_perm {s t : List PV} (h : StEq s t) (hs : ∀ p ∈ s, Small p.1) : ∀ p ∈ t, Small p.1 := fun p hp => hs p ((h.mem p).2 hp)
theorem steq_mid {x s s' y : List PV} (h : StEq s s') : StEq (x ++ s ++ y) (x ++ s' ++ y) := ((StEq.refl x).append h).append (StEq.refl y)

set_option maxHeartbeats 3200000 in
theorem stable_any (s : List PV) (w : World) (g n cap : Nat) (hn : n ≤ 1000000) (hr : PRow w g n cap s) (hs : ∀ p ∈ s, Small p.1) :
    Calls Tryd.prog 125 #[.slice (some ⟨g, 0, none⟩) n cap, .int .i64 n, .func (.func 116) #[] #[]] w (SortPost s w g n cap) := by
  have HR := Lib.hid hr
  have HS := Lib.hid hs
  clear hr hs
  go_enter Tryd.func125, Tryd.ntmps125
  go_wp2
  go_loopw [7, 8] (T1 s w g n cap) (fun a _ _ => n + 1 - (intOf a).toNat)
  case atStart => exact ⟨0, 0, s, rfl, rfl, rfl, by omega, StEq.refl _, fun j hj => by omega, HR.out, World.grownBy.refl _ _⟩
  case round =>
    obtain ⟨k, a, t, hak, rfl, rfl, han, hst, hbl, hr1, hg1⟩ := hrel
    have HK := Lib.hid hak
    have HST := Lib.hid hst
    have HBL := Lib.hid hbl
    have HR1 := Lib.hid hr1
    have HG1 := Lib.hid hg1
    clear hak hst hbl hr1 hg1
    by_cases hlt : a + 20 ≤ n
    · have hltI : ((a + 20 : Nat) : Int) ≤ n := by omega
      obtain ⟨x, hx⟩ : ∃ x, x = t.take a := ⟨_, rfl⟩
      obtain ⟨m, hm⟩ : ∃ m, m = (t.drop a).take (a + 20 - a) := ⟨_, rfl⟩
      obtain ⟨y, hy⟩ : ∃ y, y = t.drop (a + 20) := ⟨_, rfl⟩
      have ht : t = x ++ m ++ y := by rw [hx, hm, hy]; exact take_drop_split t a (a + 20) (by omega) (by rw [HR1.out.len]; exact hlt)
      have HX : Hid (x.length = a) := by show _ = _; rw [hx, List.length_take, HR1.out.len]; omega
      have HM : Hid (m.length = 20) := by show _ = _; rw [hm, List.length_take, List.length_drop, HR1.out.len]; omega
      rw [ht] at HST HBL HR1
      clear hx hm hy ht
      go_wp2_with fail
      refine (ins_any x m y wr g n cap a (a + 20) HR1.out HX.out.symm (by rw [HM.out]) (by omega) (fun p hp => small_perm HST.out HS.out p (by simp [hp]))).mono ?_
      rintro ev w1 ⟨rfl, m', h1, h2, h3, h4⟩
      have HP : Hid (T1 s w g n cap (.int .i64 (a + 20 : Nat)) (.int .i64 (a + 20 + 20 : Nat)) w1) := by
        refine ⟨k + 1, a + 20, x ++ m' ++ y, by have := HK.out; omega, rfl, rfl, hlt, HST.out.trans (steq_mid h2), ?_, h3, HG1.out.trans h4⟩
        exact blk_round HBL.out (by rw [HX.out, HK.out]) HM.out h2.length h1
      clear h1 h2 h3 h4
      go_wp2
      go_roundw
      case rel => simpa using HP.out
      case measure => simp [intOf]; omega
    · have hltI : ¬ ((a + 20 : Nat) : Int) ≤ n := by omega
      obtain ⟨x, hx⟩ : ∃ x, x = t.take a := ⟨_, rfl⟩
      obtain ⟨m, hm⟩ : ∃ m, m = t.drop a := ⟨_, rfl⟩
      have ht : t = x ++ m := by rw [hx, hm, List.take_append_drop]
      have HX : Hid (x.length = a) := by show _ = _; rw [hx, List.length_take, HR1.out.len]; omega
      have HM : Hid (m.length = n - a) := by show _ = _; rw [hm, List.length_drop, HR1.out.len]
      rw [ht] at HST HBL HR1
      clear hx hm ht
      go_wp2_with fail
      refine (ins_any x m [] wr g n cap a n (by simpa using HR1.out) HX.out.symm (by rw [HM.out]; omega) (by omega) (fun p hp => small_perm HST.out HS.out p (by simp [hp]))).mono ?_
      rintro ev w1 ⟨rfl, m', h1, h2, h3, h4⟩
      have HP : Hid (T2 s w g n cap (.int .i64 20) w1) := by
        refine ⟨20, x ++ m', rfl, by omega, by omega, HST.out.trans ((StEq.refl x).append h2), ?_, by simpa using h3, HG1.out.trans h4⟩
        exact blk_last HBL.out (by rw [HX.out, HK.out]) (by rw [HM.out]; omega) h2.length h1
      clear h1 h2 h3 h4 HR1 HG1 HST HBL HX HM HK hlt hltI
      go_wp2
      go_loopw [6] (T2 s w g n cap) (fun b _ => n + 1 - (intOf b).toNat)
      case atStart => exact HP.out
      case round =>
        clear HP
        obtain ⟨bs, t, rfl, hb1, hb2, hst, hbl, hr1, hg1⟩ := hrel
        have HST := Lib.hid hst
        have HBL := Lib.hid hbl
        have HR1 := Lib.hid hr1
        have HG1 := Lib.hid hg1
        clear hst hbl hr1 hg1
        by_cases hlt : bs < n
        · have hltI : (bs : Int) < n := by omega
          go_wp2
          go_loopw [7, 8] (T3 s bs w g n cap) (fun a _ _ => n + 1 - (intOf a).toNat)
          case atStart => exact ⟨0, 0, t, by simp, rfl, by simp, by omega, HST.out, fun j hj => by omega, fun j _ => HBL.out j, HR1.out, HG1.out⟩
          case round =>
            clear HST HBL HR1 HG1
            obtain ⟨k, a, t, hak, rfl, rfl, han, hst, hbl, hbl2, hr1, hg1⟩ := hrel
            have HK := Lib.hid hak
            have HST := Lib.hid hst
            have HBL := Lib.hid hbl
            have HBL2 := Lib.hid hbl2
            have HR1 := Lib.hid hr1
            have HG1 := Lib.hid hg1
            have HU0 : Hid (Srt ((t.drop a).take bs)) := by
              have := hbl2 (2 * k) (Nat.le_refl _)
              unfold Blk1 at this
              rw [show 2 * k * bs = a from by rw [hak, Nat.mul_comm 2 k, Nat.mul_assoc]] at this
              exact this
            have HV0 : Hid (Srt ((t.drop (a + bs)).take bs)) := by
              have := hbl2 (2 * k + 1) (by omega)
              unfold Blk1 at this
              rw [show (2 * k + 1) * bs = a + bs from by rw [Nat.succ_mul, hak, Nat.mul_comm 2 k, Nat.mul_assoc]] at this
              exact this
            clear hak hst hbl hbl2 hr1 hg1
            by_cases hlt2 : a + 2 * bs ≤ n
            · have hlt2I : ((a + 2 * bs : Nat) : Int) ≤ n := by omega
              obtain ⟨x, hx⟩ : ∃ x, x = t.take a := ⟨_, rfl⟩
              obtain ⟨u, hu⟩ : ∃ u, u = (t.drop a).take bs := ⟨_, rfl⟩
              obtain ⟨v, hv⟩ : ∃ v, v = (t.drop (a + bs)).take bs := ⟨_, rfl⟩
              obtain ⟨y, hy⟩ : ∃ y, y = t.drop (a + 2 * bs) := ⟨_, rfl⟩
              have ht : t = x ++ (u ++ v) ++ y := by
                have e1 := take_drop_split t a (a + 2 * bs) (by omega) (by rw [HR1.out.len]; exact hlt2)
                have e2 : (t.drop a).take (a + 2 * bs - a) = u ++ v := by
                  rw [hu, hv, show a + 2 * bs - a = bs + bs from by omega, List.take_add, List.drop_drop]
                rw [e2, ← hx, ← hy] at e1
                exact e1
              have HX : Hid (x.length = a) := by show _ = _; rw [hx, List.length_take, HR1.out.len]; omega
              have HU : Hid (u.length = bs) := by show _ = _; rw [hu, List.length_take, List.length_drop, HR1.out.len]; omega
              have HV : Hid (v.length = bs) := by show _ = _; rw [hv, List.length_take, List.length_drop, HR1.out.len]; omega
              rw [← hu] at HU0
              rw [← hv] at HV0
              rw [ht] at HST HBL HBL2 HR1
              clear hx hu hv hy ht
              go_wp2_with fail
              refine (show Calls _ _ #[_, .int .i64 (a : Nat), .int .i64 (a + bs : Nat), .int .i64 (a + 2 * bs : Nat), _] _ _ from sym_all _ x u v y wr g n cap a (a + bs) (a + 2 * bs) (Nat.le_refl _) (by rw [HU.out]; omega) (by rw [HV.out]; omega) HU0.out HV0.out (by simpa using HR1.out) HX.out.symm (by rw [HU.out]) (by rw [HV.out]; omega) (by omega)
                (fun p hp => small_perm HST.out HS.out p (by simp only [List.mem_append] at hp ⊢; exact .inl (.inr hp)))).mono ?_
              rintro ev w1 ⟨rfl, m', h1, h2, h3, h4⟩
              have HP : Hid (T3 s bs w g n cap (.int .i64 (a + 2 * bs : Nat)) (.int .i64 (a + 2 * bs + 2 * bs : Nat)) w1) := by
                have hl : (u ++ v).length = 2 * bs := by rw [List.length_append, HU.out, HV.out]; omega
                refine ⟨k + 1, a + 2 * bs, x ++ m' ++ y, by rw [HK.out]; exact (Nat.succ_mul _ _).symm, rfl, rfl, hlt2, HST.out.trans (steq_mid h2), ?_, ?_, h3, HG1.out.trans h4⟩
                · exact blk_round HBL.out (by rw [HX.out, HK.out]) hl h2.length h1
                · exact blk_keep HBL2.out (by rw [HX.out, HK.out]) hl h2.length
              clear h1 h2 h3 h4
              go_wp2
              go_roundw
              case rel => simpa using HP.out
              case measure => simp [intOf]; omega
            · have hlt2I : ¬ ((a + 2 * bs : Nat) : Int) ≤ n := by omega
              by_cases hlt3 : a + bs < n
              · have hlt3I : (a : Int) + bs < n := by omega
                obtain ⟨x, hx⟩ : ∃ x, x = t.take a := ⟨_, rfl⟩
                obtain ⟨u, hu⟩ : ∃ u, u = (t.drop a).take bs := ⟨_, rfl⟩
                obtain ⟨v, hv⟩ : ∃ v, v = t.drop (a + bs) := ⟨_, rfl⟩
                have hvv : (t.drop (a + bs)).take bs = v := by rw [hv, List.take_of_length_le (by rw [List.length_drop, HR1.out.len]; omega)]
                have ht : t = x ++ (u ++ v) := by
                  have e1 := take_drop_split t a (a + bs) (by omega) (by rw [HR1.out.len]; omega)
                  rw [show a + bs - a = bs from by omega, ← hx, ← hu, ← hv, List.append_assoc] at e1
                  exact e1
                have HX : Hid (x.length = a) := by show _ = _; rw [hx, List.length_take, HR1.out.len]; omega
                have HU : Hid (u.length = bs) := by show _ = _; rw [hu, List.length_take, List.length_drop, HR1.out.len]; omega
                have HV : Hid (v.length = n - (a + bs)) := by show _ = _; rw [hv, List.length_drop, HR1.out.len]
                rw [← hu] at HU0
                rw [hvv] at HV0
                rw [ht] at HST HBL HBL2 HR1
                clear hx hu hv hvv ht
                go_wp2_with fail
                refine (show Calls _ _ #[_, .int .i64 (a : Nat), .int .i64 (a + bs : Nat), .int .i64 n, _] _ _ from sym_all _ x u v [] wr g n cap a (a + bs) n (Nat.le_refl _) (by rw [HU.out]; omega) (by rw [HV.out]; omega) HU0.out HV0.out (by simpa using HR1.out) HX.out.symm (by rw [HU.out]) (by rw [HV.out]; omega) (by omega)
                  (fun p hp => small_perm HST.out HS.out p (by simp only [List.mem_append] at hp ⊢; exact .inr hp))).mono ?_
                rintro ev w1 ⟨rfl, m', h1, h2, h3, h4⟩
                have HP : Hid (T2 s w g n cap (.int .i64 (2 * bs : Nat)) w1) := by
                  have hl : (u ++ v).length ≤ 2 * bs := by rw [List.length_append, HU.out, HV.out]; omega
                  refine ⟨2 * bs, x ++ m', rfl, by omega, by omega, HST.out.trans ((StEq.refl x).append h2), ?_, by simpa using h3, HG1.out.trans h4⟩
                  exact blk_last HBL.out (by rw [HX.out, HK.out]) hl h2.length h1
                clear h1 h2 h3 h4
                go_wp2
                go_roundw
                case rel => simpa [Int.mul_comm] using HP.out
                case measure => simp [intOf]; omega
              · have hlt3I : ¬ (a : Int) + bs < n := by omega
                have HP : Hid (T2 s w g n cap (.int .i64 (2 * bs : Nat)) wr) := by
                  have hx : (t.take a).length = a := by rw [List.length_take, HR1.out.len]; omega
                  have hl : (t.drop a).length = n - a := by rw [List.length_drop, HR1.out.len]
                  have hso : Srt (t.drop a) := by
                    have := HU0.out
                    rwa [List.take_of_length_le (by omega)] at this
                  refine ⟨2 * bs, t, rfl, by omega, by omega, HST.out, ?_, HR1.out, HG1.out⟩
                  have := blk_last (x := t.take a) (s := t.drop a) (s' := t.drop a) (by rw [List.take_append_drop]; exact HBL.out) (by rw [hx, HK.out]) (by omega) rfl hso
                  rwa [List.take_append_drop] at this
                go_wp2
                go_roundw
                case rel => simpa [Int.mul_comm] using HP.out
                case measure => simp [intOf]; omega
        · have hltI : ¬ (bs : Int) < n := by omega
          go_wp2
          go_end0
          have hsr := blk_all HBL.out (by rw [HR1.out.len]; omega)
          exact ⟨rfl, by rw [← stSort_of hsr HST.out]; exact HR1.out, HG1.out⟩

theorem stableSaid_all : StableSaid 1000000 := by
  intro s w g n cap hn hr hs
  have HR := Lib.hid hr
  have HS := Lib.hid hs
  clear hr hs
  go_enter Tryd.func115, Tryd.ntmps115
  go_wp2_with (go_at_call 125; refine (stable_any s w g n cap hn HR.out HS.out).mono ?_; rintro ev w1 ⟨rfl, h1⟩; have HP := Lib.hid h1; clear h1)
  go_end0
  exact ⟨rfl, HP.out⟩
end Go.Proofs.YtlhaehefhhcgaaaDoor

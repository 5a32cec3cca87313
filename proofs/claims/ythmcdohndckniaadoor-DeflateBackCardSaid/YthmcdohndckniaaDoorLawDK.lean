/-
  DeflateBack walked.
-/
import Derived.Test.YthmcdohndckniaaDoorLawDR
namespace Go.Proofs.YthmcdohndckniaaDoor
open Go.RowKit
set_option linter.unusedVariables false

theorem infOut_more {s b more : List Int} (h : Reads s b) (hm : Bytes more) {m : Int} (h1 : (b.length : Int) ≤ m) (h2 : m ≤ 65536) : infOut (s ++ more) m = (b, (s.length : Int), 0) := by
  obtain ⟨hB, p, hp, hr⟩ := h
  have h3 := hr (bitsOf more) m.toNat (by omega)
  rw [← bitsOf_append hB hm] at h3
  unfold infOut
  rw [if_neg (by omega), h3]
  simp only [hp]
theorem reads_pos {s b : List Int} (h : Reads s b) : 0 < s.length := by
  rcases Nat.eq_zero_or_pos s.length with h0 | h0
  · exfalso
    have : s = [] := List.eq_nil_of_length_eq_zero h0
    subst this
    obtain ⟨_, p, _, hr⟩ := h
    have h3 := hr [] b.length (Nat.le_refl _)
    have h4 : inflateR (bitsOf [] ++ []) b.length = .bad false := rfl
    rw [h4] at h3
    cases h3
  · exact h0
theorem infOut_cut {s b : List Int} (h : Reads s b) {k : Nat} (hk : k < s.length) {m : Int} (h1 : (b.length : Int) ≤ m) (h2 : m ≤ 65536) : ∃ e : Int, e ≠ 0 ∧ infOut (s.take k) m = ([], 0, e) := by
  have h3 := fun a q => reads_cut h hk (most := m.toNat) (a := a) (q := q) (by omega)
  unfold infOut
  rw [if_neg (by omega)]
  cases hR : inflateR (bitsOf (s.take k)) m.toNat with
  | ok a q => exact absurd hR (h3 a q)
  | bad e => exact ⟨errOf e, errOf_ne e, rfl⟩
theorem infOut_less {s b : List Int} (h : Reads s b) {m : Int} (h0 : 0 ≤ m) (h1 : m < (b.length : Int)) (h2 : b.length ≤ 65536) : infOut s m = ([], 0, 3) := by
  obtain ⟨_, p, _, hr⟩ := h
  have h3 := hr [] b.length (Nat.le_refl _)
  rw [List.append_nil] at h3
  have h4 := (inflateR_lim h3).2 m.toNat (by omega)
  unfold infOut
  rw [if_neg (by omega), h4]
  rfl
theorem infl_get {s out : List Int} {N most e : Int} {w w' : World} {ev : Ending} (h : infOut s most = (out, N, e)) (hp : InfPost s most w ev w') :
    ∃ A c, ev = .returned (.tuple #[.slice A out.length c, .int .i64 N, .int .i64 e]) ∧ w'.ownsRow w.heap.size 5 1 (.slice A out.length c) out.length (out.map (Value.int .u8)) ∧ Below w.heap.size w w' := by
  obtain ⟨A, c, h3, h4, _, h5⟩ := hp.out
  rw [h] at h3 h4
  exact ⟨A, c, h3, h4, h5⟩
theorem bad_post {s : List Int} {most e : Int} {w w' : World} {ev : Ending} (h : infOut s most = ([], 0, e)) (hp : InfPost s most w ev w') : ∃ A c, ev = .returned (.tuple #[.slice A 0 c, .int .i64 0, .int .i64 e]) ∧ Below w.heap.size w w' := by
  obtain ⟨A, c, h3, h4, _, h5⟩ := hp.out
  rw [h] at h3
  exact ⟨A, c, h3, h5⟩
set_option maxHeartbeats 3200000 in
set_option maxRecDepth 100000 in
theorem backlaw_any (b more : List Int) (A M : Option Addr) (n c m d : Nat) (cut room : Int) (w : World) (hb : RdI .u8 w A n b) (hm : RdI .u8 w M m more) (hB : Bytes b) (hM : Bytes more) (hnc : n ≤ c) (hcut : -9223372036854775808 ≤ cut ∧ cut ≤ 9223372036854775807) (hroom : -9223372036854775808 ≤ room ∧ room ≤ 9223372036854775807) (ht : allTabs w) :
    Calls Tryd.prog 5 #[.slice A n c, .slice M m d, .int .i64 cut, .int .i64 room] w (TruePost w) := by
  have AW := Lib.hid (awake07_any w ht.1)
  have HT := Lib.hid ht
  have HR := Lib.hid hb
  have HM := Lib.hid hm
  have HBy := Lib.hid hB
  have HMy := Lib.hid hM
  have hbn := hb.1
  have hmn := hm.1
  clear ht hb hm hB hM
  by_cases c1 : 20000 < n
  · have c1I : (20000 : Int) < (n : Int) := by omega
    go_enter Tryd.func5, Tryd.ntmps5
    go_wp2_with fail
    refine AW.out.mono ?_
    rintro ev w1 ⟨rfl, hb1⟩
    have B1 := Lib.hid hb1
    clear hb1 AW
    go_wp2
    go_ret
    exact ⟨rfl, B1.out⟩
  have c1I : ¬ (20000 : Int) < (n : Int) := by omega
  have c1D : decide ((20000 : Int) < (n : Int)) = false := by simpa using c1I
  by_cases c2 : 1000 < m
  · have c2I : (1000 : Int) < (m : Int) := by omega
    go_enter Tryd.func5, Tryd.ntmps5
    go_wp2_with fail
    refine AW.out.mono ?_
    rintro ev w1 ⟨rfl, hb1⟩
    have B1 := Lib.hid hb1
    clear hb1 AW
    go_wp2
    go_ret
    exact ⟨rfl, B1.out⟩
  have c2I : ¬ (1000 : Int) < (m : Int) := by omega
  have c2D : decide ((1000 : Int) < (m : Int)) = false := by simpa using c2I
  have hf := bestB_facts HBy.out (by omega)
  have HRd := Lib.hid hf.1
  have hfl : (bestB b).length ≤ n + 5 := by
    have h1 := hf.2.1
    rw [hbn, show n / 65536 = 0 by omega] at h1
    omega
  have hS0 := reads_pos hf.1
  clear hf
  generalize hS : bestB b = S at *
  have HS := Lib.hid hS
  clear hS
  obtain ⟨q, hq⟩ : ∃ q, q = pickI room (65537 - (n : Int)) := ⟨_, rfl⟩
  have hq9 : 0 ≤ q ∧ q < 65537 - (n : Int) := by rw [hq]; exact pick_bd _ _ (by omega)
  have PK := Lib.hid (fun w => pick_any room (65537 - (n : Int)) w hroom (by omega))
  rw [← hq] at PK
  clear hq
  obtain ⟨k, hk⟩ : ∃ k, k = pickI cut (S.length : Int) := ⟨_, rfl⟩
  have hk9 : 0 ≤ k ∧ k < (S.length : Int) := by rw [hk]; exact pick_bd _ _ (by omega)
  have PC := Lib.hid (fun w => pick_any cut (S.length : Int) w hcut (by omega))
  rw [← hk] at PC
  clear hk
  obtain ⟨k, rfl⟩ : ∃ k' : Nat, k = (k' : Int) := ⟨k.toNat, by omega⟩
  have hkS : k < S.length := by omega
  have HO1 := Lib.hid (infOut_more HRd.out HMy.out (m := (n : Int) + q) (by omega) (by omega))
  obtain ⟨e2, he2, hO2⟩ := infOut_cut HRd.out hkS (m := (n : Int)) (by omega) (by omega)
  have HO2 := Lib.hid hO2
  have he2b : (e2 == 0) = false := by simpa using he2
  clear hO2
  go_enter Tryd.func5, Tryd.ntmps5
  go_wp2_with fail
  refine AW.out.mono ?_
  rintro ev w1 ⟨rfl, hb1⟩
  have B1 := Lib.hid hb1
  clear hb1 AW
  go_wp2_with fail
  refine (deflate_any b A n c w1 (HR.out.below B1.out) HBy.out (by omega) hnc (HT.out.1.below B1.out)).mono ?_
  rintro ev w2 ⟨v2, rfl, hv2, hb2⟩
  rw [HS.out] at hv2
  obtain ⟨A2, x2, rfl, hx2, ho2⟩ := hv2
  obtain ⟨g2, x2', hv2, _, hg2⟩ := ho2.form hS0
  injection hv2 with hv2 _ hx2'
  subst hv2 hx2'
  have O2 := Lib.hid ho2
  have B2 := Lib.hid (show Below w.heap.size w w2 from B1.out.trans (hb2.mono B1.out.size))
  clear ho2 hb2
  go_wp2_with fail
  refine (bound_any (n : Int) w2 (by omega)).mono ?_
  rintro ev w3 ⟨rfl, rfl⟩
  rw [if_neg (by omega)]
  go_wp2_with fail
  refine (copy_bytes S (some ⟨g2, 0, none⟩) S.length x2 w3 (RdI.of_own O2.out) (by omega)).mono ?_
  rintro ev w4 ⟨A4, x4, rfl, ho4, hb4⟩
  have O4 := Lib.hid ho4
  have L4 := Lib.hid hb4
  have B4 := Lib.hid (show Below w.heap.size w w4 from B2.out.trans (hb4.mono B2.out.size))
  clear ho4 hb4
  have HSm := Lib.hid (show Src w4 1 (.slice M m d) m (more.map (Value.int .u8)) from Src.of_rd (HM.out.below B4.out))
  go_wp2_with (at_builtin; refine heldG ?_)
  unfold HeldG
  refine app_src rfl (.tmp 47) (.tmp 48) 25 rfl w3.heap.size 5 _ 1 1 Tryd.underlying25 infoByte rfl (by omega) _ S.length _ rfl O4.out _ m _ rfl HSm.out (by intro y hy; obtain ⟨z, _, rfl⟩ := List.mem_map.1 hy; rfl) (by omega) (by omega) L4.out.size ?_
  intro v5 w5 ho5 hg5 hor5
  replace hg5 : w4.grownBy w5 (Value.slice A4 S.length x4).ownBlock := hg5
  have hrow : w5.ownsRow w3.heap.size 5 1 v5 (S.length + m) ((S ++ more).map (Value.int .u8)) := by rw [List.map_append]; exact ho5
  obtain ⟨A5, x5, rfl, hx5⟩ := own_slice hrow
  have L5 := Lib.hid (L4.out.grown hg5 L4.out.size (fun k hk => (O4.out.lt k hk).1))
  have B5 := Lib.hid (show Below w.heap.size w w5 from B2.out.trans (L5.out.mono B2.out.size))
  have R5 := Lib.hid (RdI.of_own hrow)
  clear ho5 hg5 hor5 hrow O4 L4 B4 HSm
  go_wp2_with (go_at_call 14; refine (PK.out _).mono ?_; rintro ev w6 ⟨rfl, rfl⟩)
  refine (inflate_any (S ++ more) A5 (S.length + m) x5 ((n : Int) + q) _ R5.out (fun z hz => by rcases List.mem_append.1 hz with h | h; exact HRd.out.1 z h; exact HMy.out z h) (by omega) (HT.out.2.below B5.out)).mono ?_
  intro ev w6 hp
  obtain ⟨A6, x6, rfl, ho6, hb6⟩ := infl_get HO1.out hp
  rw [hbn] at ho6
  have R6 := Lib.hid (RdI.of_own ho6)
  have L6 := Lib.hid (show Below w3.heap.size w3 w6 from L5.out.trans (hb6.mono L5.out.size))
  have B6 := Lib.hid (show Below w.heap.size w w6 from B5.out.trans (hb6.mono B5.out.size))
  clear ho6 hb6 hp HO1 R5
  have dS : ((S.length : Int) != (S.length : Int)) = false := by simp
  go_wp2_with fail
  refine (same_bytes b b A A6 n n c x6 w6 (HR.out.below B6.out) R6.out (by omega) (by omega)).mono ?_
  rintro ev w7 ⟨rfl, hb7⟩
  have L7 := Lib.hid (show Below w3.heap.size w3 w7 from L6.out.trans (hb7.mono L6.out.size))
  have B7 := Lib.hid (show Below w.heap.size w w7 from B6.out.trans (hb7.mono B6.out.size))
  clear hb7
  have ds : decide (b = b) = true := by simp
  have hkx : k ≤ x2 := by omega
  have hkI : (k : Int) ≤ (x2 : Int) := by omega
  have hk2 : k ≠ x2 := by omega
  go_wp2_with (go_at_call 14; refine (PC.out _).mono ?_; rintro ev w8 ⟨rfl, rfl⟩)
  refine (inflate_any (S.take k) (some ⟨g2, 0, none⟩) k x2 (n : Int) _ (rd_take ((RdI.of_own O2.out).below L7.out) k (by omega)) (fun z hz => HRd.out.1 z (List.mem_of_mem_take hz)) (by omega) (HT.out.2.below B7.out)).mono ?_
  intro ev w8 hp
  obtain ⟨A8, x8, rfl, hb8⟩ := bad_post HO2.out hp
  have L8 := Lib.hid (show Below w3.heap.size w3 w8 from L7.out.trans (hb8.mono L7.out.size))
  have B8 := Lib.hid (show Below w.heap.size w w8 from B7.out.trans (hb8.mono B7.out.size))
  clear hb8 hp HO2
  by_cases h0 : n = 0
  · have h0I : ((n : Int) == 0) = true := by rw [h0]; rfl
    go_wp2
    go_ret
    exact ⟨rfl, B8.out⟩
  · have h0I : ((n : Int) == 0) = false := by simp; omega
    obtain ⟨r, hr⟩ : ∃ r, r = pickI room (n : Int) := ⟨_, rfl⟩
    have hr9 : 0 ≤ r ∧ r < (n : Int) := by rw [hr]; exact pick_bd _ _ (by omega)
    have PR := Lib.hid (fun w => pick_any room (n : Int) w hroom (by omega))
    rw [← hr] at PR
    clear hr
    have HO3 := Lib.hid (infOut_less HRd.out (m := r) hr9.1 (by omega) (by omega))
    go_wp2_with (go_at_call 14; refine (PR.out _).mono ?_; rintro ev w9 ⟨rfl, rfl⟩)
    refine (inflate_any S (some ⟨g2, 0, none⟩) S.length x2 r _ ((RdI.of_own O2.out).below L8.out) HRd.out.1 (by omega) (HT.out.2.below B8.out)).mono ?_
    intro ev w9 hp
    obtain ⟨A9, x9, rfl, hb9⟩ := bad_post HO3.out hp
    have B9 := Lib.hid (show Below w.heap.size w w9 from B8.out.trans (hb9.mono B8.out.size))
    clear hb9 hp
    go_wp2
    go_ret
    exact ⟨rfl, B9.out⟩
end Go.Proofs.YthmcdohndckniaaDoor

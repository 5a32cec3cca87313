/-
  InflateBack walked.
-/
import Derived.Test.YtlhaehefhhcgaaaDoorIbArg
import Derived.Test.YtlhaehefhhcgaaaDoorIbD
import Derived.Test.YtlhaehefhhcgaaaDoorInfTop
namespace Go.Proofs.YtlhaehefhhcgaaaDoor
open Go.RowKit
set_option linter.unusedVariables false
set_option linter.unusedSimpArgs false

theorem ib_infOut {s b more : List Int} (h : Reads s b) (hm : Bytes more) {m : Int} (h1 : (b.length : Int) ≤ m) (h2 : m ≤ 65536) : infOut (s ++ more) m = (b, (s.length : Int), 0) := by
  obtain ⟨hB, p, hp, hr⟩ := h
  have h3 := hr (bitsOf more) m.toNat (by omega)
  rw [← bitsOf_append hB hm] at h3
  unfold infOut
  rw [if_neg (by omega), h3]
  simp only [hp]
theorem ib_get {s out : List Int} {N most e : Int} {w w' : World} {ev : Ending} (h : infOut s most = (out, N, e)) (hp : InfPost s most w ev w') :
    ∃ A c, ev = .returned (.tuple #[.slice A out.length c, .int .i64 N, .int .i64 e]) ∧ w'.ownsRow w.heap.size 5 1 (.slice A out.length c) out.length (out.map (Value.int .u8)) ∧ Below w.heap.size w w' := by
  obtain ⟨A, c, h3, h4, _, h5⟩ := hp.out
  rw [h] at h3 h4
  exact ⟨A, c, h3, h4, h5⟩
def allOf (L : List Bk) : List Rp := L.flatMap (·.l)
theorem allOf_next {L : List Bk} {i : Nat} {q : Bk} (h : L[i]? = some q) : allOf (L.take (i + 1)) = allOf (L.take i) ++ q.l := by
  unfold allOf
  rw [take_getq h, List.flatMap_append, List.flatMap_singleton]
theorem allOf_mem {L : List Bk} {i : Nat} {q : Rp} (h : q ∈ allOf (L.take i)) : ∃ b ∈ L, q ∈ b.l := by
  obtain ⟨b, hb, hq⟩ := List.mem_flatMap.1 h
  exact ⟨b, List.mem_of_mem_take hb, hq⟩
theorem blk_step {n i la kn : Nat} {bt s t X : List Int} (hla : la = if i + 1 = n then 1 else 0) (hk : kn < 3) (hp : Pre bt s i) (hst : s.length ≤ t.length) (hd : Kd kn s t (bt.length + 3) X) :
    (i + 1 < n → Pre (bt ++ (bitsL la 1 ++ bitsL kn 2) ++ X) t (i + 1)) ∧ (i + 1 = n → Fin (bt ++ (bitsL la 1 ++ bitsL kn 2) ++ X) t (i + 1)) := by
  constructor
  · intro h
    rw [if_neg (by omega)] at hla
    subst hla
    exact pre_step hp hst hk hd
  · intro h
    rw [if_pos h] at hla
    subst hla
    exact fin_step hp hst hk hd
theorem ib_dyn_le {l : List Pc} (hl : l.length ≤ 300) (hf : ∀ p ∈ l, Fine p) : (dynX l).length ≤ 100000 := by
  have fA := fitA_facts (show l.length ≤ 65536 by omega)
  have fD := fitD_facts (show l.length ≤ 65536 by omega)
  have e : dynX l = bitsL 29 5 ++ (bitsL 29 5 ++ (bitsL 15 4 ++ (shB shortL 19 ++ (flatS (fitA l) ++ (flatS (fitD l) ++ pcsB (fitA l) (fitD l) l))))) := rfl
  rw [e]
  generalize fitA l = zs at *
  generalize fitD l = ds at *
  have h1 := flatS_le zs (fun z hz => by have := fA.2.2.1 z hz; omega)
  have h2 := flatS_le ds (fun z hz => by have := fD.2.2.1 z hz; omega)
  have h3 := pcsB_le fA.1 fD.1 (by have := fA.2.1; omega) (by have := fD.2.1; omega) l hf
  have h4 := litB_le fA.1 (s := 256) (by have := fA.2.1; omega)
  have := fA.2.1
  have := fD.2.1
  simp only [List.length_append, bitsL_len, shB_len, pcsB]
  omega
theorem fix_ok : countsOk fixedL = true := by kernel_rfl
theorem fix_okD : countsOk fixedD = true := by kernel_rfl
theorem ib_fix_le {l : List Pc} (hl : l.length ≤ 300) (hf : ∀ p ∈ l, Fine p) : (pcsB fixedL fixedD l).length ≤ 100000 := by
  have h3 := pcsB_le fix_ok fix_okD (show 286 ≤ fixedL.length by decide +kernel) (show 30 ≤ fixedD.length by decide +kernel) l hf
  have h4 := litB_le fix_ok (s := 256) (by decide +kernel)
  simp only [List.length_append, pcsB]
  omega
/-- What lies apart from a writer stays. -/
theorem rd_step {w w' : World} {g gT n : Nat} {own own' : Option Nat} {o c : Nat} {zs : List Int} (h : w.ownsRow o 5 1 (.slice (some ⟨gT, 0, none⟩) n c) n (zs.map (Value.int .u8))) (hst : WrStep w w' g own own') (h1 : gT ≠ g) (h2 : own ≠ some gT) : RdI .u8 w' (some ⟨gT, 0, none⟩) n zs := by
  obtain ⟨hl, hr⟩ := RdI.of_own h
  refine ⟨hl, fun hn => ?_⟩
  obtain ⟨b, off, e, hb, hc⟩ := hr hn
  injection e with e
  injection e with e1 e2
  subst e1 e2
  refine ⟨gT, 0, rfl, Nat.lt_of_lt_of_le hb hst.size, fun j hj => ?_⟩
  have hk := hst.block gT hb h1 (fun e => h2 e.symm)
  have h3 := hc j hj
  unfold World.cell? at *
  simp only at *
  rw [hk]; exact h3

def IbI (L : List Bk) (n g : Nat) (w : World) (k : Nat) (av iv : Value) (wr : World) : Prop :=
  ∃ (i : Nat) (bt s : List Int) (own : Option Nat), iv = .int .i64 (i : Int) ∧ i + k = n ∧
    wr.ownsRow w.heap.size 94 3 av (allOf (L.take i)).length ((allOf (L.take i)).flatMap rcell) ∧
    WrOk wr g own bt ∧ Lo w.heap.size own ∧ expR [] (allOf (L.take i)) = some s ∧ s.length ≤ 8000 ∧ (i < n → Pre bt s i) ∧ (0 < i → i = n → Fin bt s i) ∧ bt.length ≤ i * 200000 ∧ 3 * i ≤ bt.length ∧
    (∀ z ∈ s, 0 ≤ z ∧ z < 256) ∧ Below w.heap.size w wr ∧ (allOf (L.take i)).length ≤ i * 300
def IbT (t bt : List Int) (s g : Nat) (own : Option Nat) (w : World) (k : Nat) (iv : Value) (wr : World) : Prop :=
  ∃ (j : Nat) (own' : Option Nat), iv = .int .i64 ((s + j : Nat) : Int) ∧ s + j + k = t.length ∧ WrOk wr g own' (bt ++ byB ((t.drop s).take j)) ∧ WrStep w wr g own own'
theorem ib_byte {t : List Int} {s j : Nat} (h : s + j < t.length) (hz : 0 ≤ t.getD (s + j) 0) : byB ((t.drop s).take (j + 1)) = byB ((t.drop s).take j) ++ bitsL (t.getD (s + j) 0).toNat 8 := by
  have e : (t.drop s)[j]? = some (t.getD (s + j) 0) := by
    rw [List.getElem?_drop, List.getD_eq_getElem?_getD, List.getElem?_eq_getElem h]; rfl
  unfold byB
  rw [take_getq e, List.flatMap_append, List.flatMap_singleton]

theorem infoPieceB : (Tryd.prog.info? 94).map (fun i => (i.zero, i.size, i.bytes)) = some (some (.agg #[.int .u8 0, .int .i64 0, .int .i64 0]), 3, 24) := by kernel_rfl
theorem rcells_one (l : List Rp) : ∀ y ∈ l.flatMap rcell, y.oneCell' = true := by
  intro y hy
  obtain ⟨q, _, h⟩ := List.mem_flatMap.1 hy
  simp only [rcell, List.mem_cons, List.not_mem_nil, or_false] at h
  rcases h with rfl | rfl | rfl <;> rfl
theorem WrOk.lts {w : World} {g : Nat} {own : Option Nat} {bt : List Int} (h : WrOk w g own bt) : g < w.heap.size ∧ ∀ k, own = some k → k < w.heap.size := by
  obtain ⟨v, bs, rest, n, ⟨h1, h2, _⟩, ho, _⟩ := h
  exact ⟨h1.lt, fun k hk => (h2.lt k (ho.trans hk)).2⟩
def IbPost (w : World) (ev : Ending) (w' : World) : Prop := ev = .returned (.bool true) ∧ Below w.heap.size w w'
theorem stoX_eq (p : Nat) (c : List Int) (bt : List Int) (hp : bt.length = p) : bt ++ stoX p c = bt ++ List.replicate ((8 - bt.length % 8) % 8) 0 ++ bitsL c.length 16 ++ bitsL (65535 - c.length) 16 ++ byB c := by
  subst hp
  unfold stoX
  simp only [List.append_assoc]

set_option maxHeartbeats 6400000 in
set_option maxRecDepth 100000 in
theorem iback_any (L : List Bk) (more : List Int) (A M : Option Addr) (n c m d : Nat) (w : World) (hL : BSrc w A n c L) (hm : RdI .u8 w M m more) (hM : Bytes more) (ht : TabsOk w) :
    Calls Tryd.prog 7 #[.slice A n c, .slice M m d] w (IbPost w) := by
  have AW := Lib.hid (awake_any w ht)
  have HT := Lib.hid ht
  have HL := Lib.hid hL
  have HM := Lib.hid hm
  have HMy := Lib.hid hM
  have hln := hL.len
  have hmn := hm.1
  clear ht hL hm hM
  by_cases c1 : 6 < n
  · have c1I : (6 : Int) < (n : Int) := by omega
    go_enter Tryd.func7, Tryd.ntmps7
    go_wp2_with fail
    refine AW.out.mono ?_
    rintro ev w1 ⟨rfl, hb1⟩
    have B1 := Lib.hid hb1
    clear hb1 AW
    go_wp2
    go_ret
    exact ⟨rfl, B1.out⟩
  have c1I : ¬ (6 : Int) < (n : Int) := by omega
  have c1D : decide ((6 : Int) < (n : Int)) = false := by simpa using c1I
  by_cases c2 : 300 < m
  · have c2I : (300 : Int) < (m : Int) := by omega
    go_enter Tryd.func7, Tryd.ntmps7
    go_wp2_with fail
    refine AW.out.mono ?_
    rintro ev w1 ⟨rfl, hb1⟩
    have B1 := Lib.hid hb1
    clear hb1 AW
    go_wp2
    go_ret
    exact ⟨rfl, B1.out⟩
  have c2I : ¬ (300 : Int) < (m : Int) := by omega
  have c2D : decide ((300 : Int) < (m : Int)) = false := by simpa using c2I
  go_enter Tryd.func7, Tryd.ntmps7
  go_wp2_with fail
  refine AW.out.mono ?_
  rintro ev w1 ⟨rfl, hb1⟩
  have B1 := Lib.hid hb1
  clear hb1 AW
  go_wp2_with fail
  refine (newWriter_any w1).mono ?_
  rintro ev w2 ⟨g, rfl, hg2, hw2, hb2⟩
  have hg : w.heap.size ≤ g := by have := B1.out.size; omega
  have B2 := Lib.hid (show Below w.heap.size w w2 from B1.out.trans (hb2.mono B1.out.size))
  have W2 := Lib.hid hw2
  clear hw2 hb2 B1 hg2
  go_wp2
  go_loopg [5, 7] n (IbI L n g w)
  case atStart => exact ⟨0, [], [], none, rfl, by omega, World.ownsRow_nil _ _ _ _, W2.out, (show Lo w.heap.size none from fun j hj => by cases hj), rfl, by simp, fun _ => pre_nil, fun h => by omega, by simp, by simp, fun z hz => by simp at hz, B2.out, by simp [allOf]⟩
  case round =>
    clear W2 B2
    obtain ⟨i, bt, s, own, rfl, hi, hall, hw, hlo, he, hs8, hpre, hfin, hbl, hb3, hsb, hb, hal⟩ := hrel
    obtain ⟨gk0, hgk0⟩ : ∃ x, x = gk := ⟨_, rfl⟩
    rw [← hgk0] at hi
    have HGk := Lib.hid hgk0
    clear hgk0
    have HA := Lib.hid hall
    have HW := Lib.hid hw
    have HLo := Lib.hid hlo
    have HE := Lib.hid he
    have HSb := Lib.hid hsb
    have HB := Lib.hid hb
    have HFin := Lib.hid hfin
    have HPre0 := Lib.hid hpre
    clear hall hw hlo he hpre hfin hsb hb
    by_cases hlt : i < n
    · have hltI : (i : Int) < (n : Int) := by omega
      have HPre := Lib.hid (HPre0.out hlt)
      clear HPre0 HFin
      obtain ⟨gp, off, q, rfl, hgp, hq, hqk, p0', p1'⟩ := HL.out.at_ hlt
      obtain ⟨hqs, hqf, hqb⟩ := hqk
      have HQ := Lib.hid hq
      have HQS := Lib.hid hqs
      have p1 := keepCell HB.out hgp p1'
      clear hq hqs hqf
      by_cases hp : 300 < q.n
      · have hpI : (300 : Int) < (q.n : Int) := by omega
        go_wp2
        go_ret
        exact ⟨rfl, HB.out⟩
      · have hpI : ¬ (300 : Int) < (q.n : Int) := by omega
        by_cases hla : i + 1 = n
        · have hlaI : ((i : Int) == (n : Int) - 1) = true := by simp; omega
          have HLaN := Lib.hid hla
          clear hla
          have HLa := Lib.hid (show 1 = if i + 1 = n then 1 else 0 from (by rw [if_pos HLaN.out]))
          obtain ⟨Av, cv, rfl, hcv⟩ := own_slice HA.out
          have HRf := Lib.hid (fun (j : Nat) (z : Rp) (hz : z ∈ allOf (L.take j)) => show z.fine from (allOf_mem hz).elim fun b hb => (HL.out.2 b hb.1).2.1 z hb.2)
          go_wp2_with fail
          refine (expand_any (allOf (L.take i)) Av _ cv wr (Src.of_own HA.out) (by omega) (HRf.out i)).mono ?_
          rintro ev w1 ⟨hb1, he1⟩
          rw [HE.out] at he1
          simp only at he1
          obtain ⟨hs16, A1, c1, rfl, -⟩ := he1
          have HA1 := Lib.hid (own_below HA.out hb1)
          have HW1 := Lib.hid (HW.out.below hb1)
          have HB1 := Lib.hid (show Below w.heap.size w w1 from HB.out.trans (hb1.mono HB.out.size))
          clear hb1 HA HW HB p1
          have p1 := keepCell HB1.out hgp p1'
          have HSq := Lib.hid (show Src w1 3 (.slice q.A q.n q.c) q.n (q.l.flatMap rcell) from Src.below HQS.out HB1.out)
          go_wp2_with (at_builtin; refine heldG ?_)
          unfold HeldG
          refine app_src rfl (.tmp 58) (.tmp 63) 36 rfl w.heap.size 94 _ 3 24 Tryd.underlying36 infoPieceB rfl (by omega) _ _ _ rfl HA1.out _ q.n _ rfl HSq.out (rcells_one q.l) (by omega) (by omega) HB1.out.size ?_
          intro v5 w5 ho5 hg5 hor5
          have hAl5 : (allOf (L.take (i + 1))).length = (allOf (L.take i)).length + q.n := by rw [allOf_next HQ.out, List.length_append, HQS.out.len]
          have HAl := Lib.hid (show (allOf (L.take (i + 1))).length ≤ (i + 1) * 300 by omega)
          have hrow : w5.ownsRow w.heap.size 94 3 v5 (allOf (L.take (i + 1))).length ((allOf (L.take (i + 1))).flatMap rcell) := by
            rw [hAl5, allOf_next HQ.out, List.flatMap_append]; exact ho5
          have HW5 := Lib.hid (HW1.out.grown HA1.out hg5 (by decide) (by decide))
          have HB5 := Lib.hid (show Below w.heap.size w w5 from HB1.out.grown hg5 HB1.out.size (fun k hk => (HA1.out.lt k hk).1))
          obtain ⟨A5, c5, rfl, hc5⟩ := own_slice hrow
          have HA5 := Lib.hid hrow
          have hal5 := HAl.out
          clear ho5 hg5 hor5 hrow HA1 HW1 HB1 HSq hAl5 p1
          go_wp2_with fail
          refine (expand_any (allOf (L.take (i + 1))) A5 _ c5 w5 (Src.of_own HA5.out) (by omega) (HRf.out (i + 1))).mono ?_
          rintro ev w6 ⟨hb6, he6⟩
          have L6 := Lib.hid hb6
          have HB6 := Lib.hid (show Below w.heap.size w w6 from HB5.out.trans (hb6.mono HB5.out.size))
          clear hb6
          cases hE : expR [] (allOf (L.take (i + 1))) with
          | none =>
            rw [hE] at he6
            simp only at he6
            subst he6
            clear hE
            go_wp2
            go_ret
            exact ⟨rfl, HB6.out⟩
          | some t =>
            rw [hE] at he6
            simp only at he6
            obtain ⟨ht16, A6, c6, rfl, ho6⟩ := he6
            by_cases h8 : 8000 < t.length
            · have h8I : (8000 : Int) < (t.length : Int) := by omega
              clear hE
              go_wp2
              go_ret
              exact ⟨rfl, HB6.out⟩
            · have h8I : ¬ (8000 : Int) < (t.length : Int) := by omega
              have h8D : decide ((8000 : Int) < (t.length : Int)) = false := by simpa using h8I
              have HO6 := Lib.hid ho6
              have HE2 := Lib.hid hE
              obtain ⟨pa, pl, hqpl, hok, hsay, hoka⟩ := exp_more HE.out (by rw [← allOf_next HQ.out]; exact hE) (fun z hz => by rw [← allOf_next HQ.out] at hz; have := HRf.out (i + 1) z hz; unfold Rp.fine at this; omega)
              obtain ⟨rr, hrr⟩ := say_pre pl s
              have hts : t = s ++ rr := by rw [← hsay, hrr]
              have HTb := Lib.hid (show ∀ z ∈ t, 0 ≤ z ∧ z < 256 by rw [← hsay]; exact say_bytes pl s hok HSb.out)
              have HFp := Lib.hid (show ∀ p ∈ pl, Fine p from fun p hp => fine_of _ _ hoka p (by simp [hp]))
              have HPS := Lib.hid (show PSrc w q.A q.n q.c (pl.map Pc.raw) by rw [← hqpl]; exact HQS.out)
              have hpn : pl.length = q.n := by have := HPS.out.len; simpa using this
              have hst8 : s.length ≤ t.length := by rw [hts]; simp
              have HOk := Lib.hid hok
              have HOka := Lib.hid hoka
              have HSay := Lib.hid hsay
              have HTs := Lib.hid hts
              have W6 := Lib.hid (HW5.out.below L6.out)
              have S6 := Lib.hid (show WrStep w5 w6 g own own from WrStep.of_below L6.out)
              clear hE ho6 hqpl hok hsay hoka hrr hts
              go_wp2_with fail
              refine (put_any bt g own 1 1 w6 W6.out (by omega) (by omega) (by omega)).mono ?_
              rintro ev w7 ⟨rfl, own7, ho7, hst7⟩
              have W7 := Lib.hid ho7
              have S7 := Lib.hid (S6.out.trans hst7)
              have T7 := Lib.hid hst7
              have HB7 := Lib.hid (show Below w.heap.size w w7 from HB5.out.trans (S7.out.below hg HLo.out HB5.out.size))
              clear ho7 hst7 W6 S6
              have p0 := keepCell HB7.out hgp p0'
              have hkb := pick_bd q.k 3 (by omega)
              have PK := Lib.hid (fun w => pick_any q.k 3 w hqb (by omega))
              generalize pickI q.k 3 = kd at *
              obtain hkd | hkd | hkd : kd = 0 ∨ kd = 1 ∨ kd = 2 := by omega
              · subst hkd
                go_wp2_with (go_at_call 15; refine (PK.out _).mono ?_; rintro ev w8 ⟨rfl, rfl⟩)
                refine (put_any (bt ++ bitsL 1 1) g own7 0 2 _ W7.out (by omega) (by omega) (by rw [List.length_append, bitsL_len]; omega)).mono ?_
                rintro ev w8 ⟨rfl, own8, ho8, hst8⟩
                have W8 := Lib.hid ho8
                have S8 := Lib.hid (S7.out.trans hst8)
                have T8 := Lib.hid (T7.out.trans hst8)
                have HB8 := Lib.hid (show Below w.heap.size w w8 from HB5.out.trans (S8.out.below hg HLo.out HB5.out.size))
                have Lo8 := Lib.hid (S8.out.lo HLo.out HB5.out.size)
                have hb2 : (bt ++ bitsL 1 1 ++ bitsL 0 2).length = bt.length + 3 := by simp only [List.length_append, bitsL_len]
                clear ho8 hst8 W7 S7 HB7 PK p0 T7
                obtain ⟨m, hm1, hm2⟩ : ∃ m, t.length ≤ s.length + m ∧ s.length + m ≤ t.length := ⟨t.length - s.length, by omega, by omega⟩
                have hcl : (t.drop s.length).length = m := by rw [List.length_drop]; omega
                have hrr : t.drop s.length = rr := by rw [HTs.out]; simp
                have HKd := Lib.hid (show Kd 0 s t (bt.length + 3) (stoX (bt.length + 3) (t.drop s.length)) by
                  have h1 := kd_sto (s := s) (c := t.drop s.length) (p := bt.length + 3) (fun b hb => HTb.out b (List.mem_of_mem_drop hb)) (by omega)
                  rw [show s ++ t.drop s.length = t by rw [hrr, ← HTs.out]] at h1
                  exact h1)
                have HEq := Lib.hid (stoX_eq (bt.length + 3) (t.drop s.length) (bt ++ bitsL 1 1 ++ bitsL 0 2) hb2)
                rw [hcl] at HEq
                generalize hbt2 : bt ++ bitsL 1 1 ++ bitsL 0 2 = bt2 at *
                have HB2 := Lib.hid hbt2
                clear hbt2
                have hpad : (bt2 ++ List.replicate ((8 - bt2.length % 8) % 8) (0 : Int)).length ≤ bt2.length + 8 := by rw [List.length_append, List.length_replicate]; omega
                have e1 : (t.length : Int) - (s.length : Int) = (m : Int) := by omega
                have e2 : (m : Int) % 4294967296 = (m : Int) := by omega
                have e3 : ((65535 : Int) - (m : Int)) % 4294967296 = ((65535 - m : Nat) : Int) := by omega
                have e4 : (65535 : Int) - (m : Int) = ((65535 - m : Nat) : Int) := by omega
                have e5 : ((65535 - m : Nat) : Int) % 4294967296 = ((65535 - m : Nat) : Int) := by omega
                have hm3 : 65535 - m < 4294967296 := by omega
                generalize 65535 - m = m2 at *
                clear hrr
                go_wp2_with fail
                refine (walign_any bt2 g own8 w8 W8.out (by omega)).mono ?_
                rintro ev wa ⟨rfl, owna, hoa, hsta⟩
                have Wa := Lib.hid hoa
                have Sa := Lib.hid (S8.out.trans hsta)
                have Ta := Lib.hid (T8.out.trans hsta)
                clear hoa hsta W8 S8 T8
                generalize bt2 ++ List.replicate ((8 - bt2.length % 8) % 8) (0 : Int) = bt3 at *
                go_wp2_with fail
                refine (put_any bt3 g owna m 16 wa Wa.out (by omega) (by omega) (by omega)).mono ?_
                rintro ev wb ⟨rfl, ownb, hob, hstb⟩
                have Wb := Lib.hid hob
                have Sb := Lib.hid (Sa.out.trans hstb)
                have Tb := Lib.hid (Ta.out.trans hstb)
                clear hob hstb Wa Sa Ta
                go_wp2_with fail
                refine (put_any (bt3 ++ bitsL m 16) g ownb m2 16 wb Wb.out hm3 (by omega) (by rw [List.length_append, bitsL_len]; omega)).mono ?_
                rintro ev wc ⟨rfl, ownc, hoc, hstc⟩
                have Wc := Lib.hid hoc
                have Sc := Lib.hid (Sb.out.trans hstc)
                have Tc := Lib.hid (Tb.out.trans hstc)
                have hb4 : (bt3 ++ bitsL m 16 ++ bitsL m2 16).length ≤ bt.length + 60 := by simp only [List.length_append, bitsL_len]; omega
                generalize bt3 ++ bitsL m 16 ++ bitsL m2 16 = bt4 at *
                clear hoc hstc Wb Sb Tb e1 e2 e3 e4 e5
                obtain ⟨hg5, ho5⟩ := HW5.out.lts
                go_wp2
                go_loopg [15] m (IbT t bt4 s.length g ownc wc)
                case atStart => exact ⟨0, ownc, rfl, by omega, by simpa [byB] using Wc.out, WrStep.refl _ _ _⟩
                case round =>
                  obtain ⟨j, ownj, rfl, hj, hwj, hstj⟩ := hrel
                  have Wj := Lib.hid hwj
                  have Sj := Lib.hid hstj
                  have S9 := Lib.hid (Sc.out.trans hstj)
                  have T9 := Lib.hid (Tc.out.trans hstj)
                  clear hwj hstj
                  have hbl9 : (bt4 ++ byB ((t.drop s.length).take j)).length ≤ bt.length + 60 + 8 * t.length := by
                    rw [List.length_append, byB_len, List.length_take, hcl]; omega
                  by_cases hjm : j < m
                  · obtain ⟨g6, c6', hv6, hge6, hlt6⟩ := HO6.out.form (by omega)
                    injection hv6 with hA6 _ hc6
                    subst hA6 hc6
                    have hjl : s.length + j < t.length := by omega
                    have hjlI : ((s.length + j : Nat) : Int) < (t.length : Int) := by omega
                    have R6 := rd_step HO6.out (g := g) (own := own) (own' := ownj) (w' := wr) T9.out (by omega) (fun e => by have := ho5 _ e; omega)
                    have cz := rdq_cell R6 (Below.refl _ _) hjl
                    rw [Nat.zero_add] at cz
                    have hzb := HTb.out (t.getD (s.length + j) 0) (by rw [List.getD_eq_getElem?_getD, List.getElem?_eq_getElem hjl]; exact List.getElem_mem hjl)
                    have HBy := Lib.hid (ib_byte hjl hzb.1)
                    generalize t.getD (s.length + j) 0 = z at *
                    obtain ⟨zn, rfl⟩ : ∃ zn : Nat, z = zn := ⟨z.toNat, by omega⟩
                    rw [Int.toNat_natCast] at HBy
                    have ez : (zn : Int) % 4294967296 = (zn : Int) := by omega
                    clear R6
                    go_wp2_with fail
                    refine (put_any (bt4 ++ byB ((t.drop s.length).take j)) g ownj zn 8 wr Wj.out (by omega) (by omega) (by omega)).mono ?_
                    rintro ev wy ⟨rfl, own2, ho2, hst2⟩
                    have Y1 := Lib.hid ho2
                    have Y2 := Lib.hid (Sj.out.trans hst2)
                    clear ho2 hst2
                    go_wp2
                    go_roundg (gk - 1)
                    case measure => omega
                    case rel =>
                      refine ⟨j + 1, own2, by go_num, by omega, ?_, Y2.out⟩
                      rw [HBy.out, ← List.append_assoc]
                      exact Y1.out
                  · obtain rfl : j = m := by omega
                    have hjlI : ¬ ((s.length + j : Nat) : Int) < (t.length : Int) := by omega
                    rw [List.take_of_length_le (by omega)] at Wj hbl9
                    go_wp2
                    go_roundg (gk0 - 1)
                    case measure => (have := HGk.out; omega)
                    case rel =>
                      have hbs := blk_step (n := n) (la := 1) (kn := 0) HLa.out (by omega) HPre.out (by omega) HKd.out
                      have h9 := Wj.out
                      rw [← HEq.out, ← HB2.out] at h9
                      refine ⟨i + 1, bt ++ (bitsL 1 1 ++ bitsL 0 2) ++ stoX (bt.length + 3) (t.drop s.length), t, ownj, by go_num, by omega, S9.out.keeps HW5.out HA5.out (by decide) (by decide), ?_, S9.out.lo HLo.out HB5.out.size, HE2.out, by omega, fun h => hbs.1 h, fun _ h => hbs.2 h, ?_, ?_, HTb.out, HB5.out.trans (S9.out.below hg HLo.out HB5.out.size), ?_⟩
                      · simpa only [List.append_assoc] using h9
                      · simp only [List.length_append, bitsL_len, stoX, List.length_replicate, byB_len, hcl]; omega
                      · simp only [List.length_append, bitsL_len]; omega
                      · have := HAl.out; omega
              · subst hkd
                go_wp2_with (go_at_call 15; refine (PK.out _).mono ?_; rintro ev w8 ⟨rfl, rfl⟩)
                refine (put_any (bt ++ bitsL 1 1) g own7 1 2 _ W7.out (by omega) (by omega) (by rw [List.length_append, bitsL_len]; omega)).mono ?_
                rintro ev w8 ⟨rfl, own8, ho8, hst8⟩
                have W8 := Lib.hid ho8
                have S8 := Lib.hid (S7.out.trans hst8)
                have T8 := Lib.hid (T7.out.trans hst8)
                have HB8 := Lib.hid (show Below w.heap.size w w8 from HB5.out.trans (S8.out.below hg HLo.out HB5.out.size))
                have Lo8 := Lib.hid (S8.out.lo HLo.out HB5.out.size)
                have hb2 : (bt ++ bitsL 1 1 ++ bitsL 1 2).length = bt.length + 3 := by simp only [List.length_append, bitsL_len]
                clear ho8 hst8 W7 S7 HB7 PK p0 T7
                have HKd := Lib.hid (show Kd 1 s t (bt.length + 3) (pcsB fixedL fixedD pl) by rw [← HSay.out]; exact kd_fix HOk.out HOka.out)
                have HXl := Lib.hid (ib_fix_le (by omega) HFp.out)
                go_wp2_with fail
                refine (rfixed_own w8).mono ?_
                rintro ev wa ⟨FA, FB, ca, cb, rfl, hfa, hfb, hba⟩
                have FA1 := Lib.hid (own_low hfa)
                have FB1 := Lib.hid (own_low hfb)
                have Wa := Lib.hid (W8.out.below hba)
                have Sa := Lib.hid (S8.out.trans (WrStep.of_below hba))
                have HBa := Lib.hid (show Below w.heap.size w wa from HB8.out.trans (hba.mono HB8.out.size))
                clear hfa hfb hba W8 S8 HB8
                have p1 := keepCell HBa.out hgp p1'
                go_wp2_with fail
                refine (ibpieces_any (bt ++ bitsL 1 1 ++ bitsL 1 2) g own8 fixedL fixedD FA FB 288 ca 32 cb pl q.A q.n q.c w wa Wa.out FA1.out FB1.out fix_ok fix_okD (by omega) (by omega) HPS.out (by omega) HFp.out HBa.out hg Lo8.out (by omega)).mono ?_
                rintro ev w9 ⟨rfl, own9, ho9, hst9⟩
                have W9 := Lib.hid ho9
                have S9 := Lib.hid (Sa.out.trans hst9)
                clear ho9 hst9 Wa Sa p1
                go_wp2
                go_roundg (gk0 - 1)
                case measure => (have := HGk.out; omega)
                case rel =>
                  have hbs := blk_step (n := n) (la := 1) (kn := 1) HLa.out (by omega) HPre.out (by omega) HKd.out
                  have eb : bt ++ bitsL 1 1 ++ bitsL 1 2 ++ (pcsB fixedL fixedD pl) = bt ++ (bitsL 1 1 ++ bitsL 1 2) ++ (pcsB fixedL fixedD pl) := by simp only [List.append_assoc]
                  refine ⟨i + 1, bt ++ (bitsL 1 1 ++ bitsL 1 2) ++ (pcsB fixedL fixedD pl), t, own9, by go_num, by omega, S9.out.keeps HW5.out HA5.out (by decide) (by decide), by rw [← eb]; exact W9.out, S9.out.lo HLo.out HB5.out.size, HE2.out, by omega, fun h => hbs.1 h, fun _ h => hbs.2 h, ?_, ?_, HTb.out, HB5.out.trans (S9.out.below hg HLo.out HB5.out.size), ?_⟩
                  · have := HXl.out
                    simp only [List.length_append, bitsL_len]; omega
                  · simp only [List.length_append, bitsL_len]; omega
                  · have := HAl.out; omega
              · subst hkd
                go_wp2_with (go_at_call 15; refine (PK.out _).mono ?_; rintro ev w8 ⟨rfl, rfl⟩)
                refine (put_any (bt ++ bitsL 1 1) g own7 2 2 _ W7.out (by omega) (by omega) (by rw [List.length_append, bitsL_len]; omega)).mono ?_
                rintro ev w8 ⟨rfl, own8, ho8, hst8⟩
                have W8 := Lib.hid ho8
                have S8 := Lib.hid (S7.out.trans hst8)
                have T8 := Lib.hid (T7.out.trans hst8)
                have HB8 := Lib.hid (show Below w.heap.size w w8 from HB5.out.trans (S8.out.below hg HLo.out HB5.out.size))
                have Lo8 := Lib.hid (S8.out.lo HLo.out HB5.out.size)
                have hb2 : (bt ++ bitsL 1 1 ++ bitsL 2 2).length = bt.length + 3 := by simp only [List.length_append, bitsL_len]
                clear ho8 hst8 W7 S7 HB7 PK p0 T7
                have HKd := Lib.hid (show Kd 2 s t (bt.length + 3) (dynX pl) by rw [← HSay.out]; exact kd_dyn HOk.out HOka.out (by omega))
                have HXl := Lib.hid (ib_dyn_le (by omega) HFp.out)
                have p1 := keepCell HB8.out hgp p1'
                go_wp2_with fail
                refine (ibdynamic_any (bt ++ bitsL 1 1 ++ bitsL 2 2) g own8 pl q.A q.n q.c w w8 W8.out HPS.out (by omega) HFp.out HB8.out hg Lo8.out (by omega)).mono ?_
                rintro ev w9 ⟨rfl, own9, ho9, hst9⟩
                have W9 := Lib.hid ho9
                have S9 := Lib.hid (S8.out.trans hst9)
                clear ho9 hst9 W8 S8 p1
                go_wp2
                go_roundg (gk0 - 1)
                case measure => (have := HGk.out; omega)
                case rel =>
                  have hbs := blk_step (n := n) (la := 1) (kn := 2) HLa.out (by omega) HPre.out (by omega) HKd.out
                  have eb : bt ++ bitsL 1 1 ++ bitsL 2 2 ++ (dynX pl) = bt ++ (bitsL 1 1 ++ bitsL 2 2) ++ (dynX pl) := by simp only [List.append_assoc]
                  refine ⟨i + 1, bt ++ (bitsL 1 1 ++ bitsL 2 2) ++ (dynX pl), t, own9, by go_num, by omega, S9.out.keeps HW5.out HA5.out (by decide) (by decide), by rw [← eb]; exact W9.out, S9.out.lo HLo.out HB5.out.size, HE2.out, by omega, fun h => hbs.1 h, fun _ h => hbs.2 h, ?_, ?_, HTb.out, HB5.out.trans (S9.out.below hg HLo.out HB5.out.size), ?_⟩
                  · have := HXl.out
                    simp only [List.length_append, bitsL_len]; omega
                  · simp only [List.length_append, bitsL_len]; omega
                  · have := HAl.out; omega
        · have hlaI : ((i : Int) == (n : Int) - 1) = false := by simp; omega
          have HLaN := Lib.hid hla
          clear hla
          have HLa := Lib.hid (show 0 = if i + 1 = n then 1 else 0 from (by rw [if_neg HLaN.out]))
          obtain ⟨Av, cv, rfl, hcv⟩ := own_slice HA.out
          have HRf := Lib.hid (fun (j : Nat) (z : Rp) (hz : z ∈ allOf (L.take j)) => show z.fine from (allOf_mem hz).elim fun b hb => (HL.out.2 b hb.1).2.1 z hb.2)
          go_wp2_with fail
          refine (expand_any (allOf (L.take i)) Av _ cv wr (Src.of_own HA.out) (by omega) (HRf.out i)).mono ?_
          rintro ev w1 ⟨hb1, he1⟩
          rw [HE.out] at he1
          simp only at he1
          obtain ⟨hs16, A1, c1, rfl, -⟩ := he1
          have HA1 := Lib.hid (own_below HA.out hb1)
          have HW1 := Lib.hid (HW.out.below hb1)
          have HB1 := Lib.hid (show Below w.heap.size w w1 from HB.out.trans (hb1.mono HB.out.size))
          clear hb1 HA HW HB p1
          have p1 := keepCell HB1.out hgp p1'
          have HSq := Lib.hid (show Src w1 3 (.slice q.A q.n q.c) q.n (q.l.flatMap rcell) from Src.below HQS.out HB1.out)
          go_wp2_with (at_builtin; refine heldG ?_)
          unfold HeldG
          refine app_src rfl (.tmp 58) (.tmp 63) 36 rfl w.heap.size 94 _ 3 24 Tryd.underlying36 infoPieceB rfl (by omega) _ _ _ rfl HA1.out _ q.n _ rfl HSq.out (rcells_one q.l) (by omega) (by omega) HB1.out.size ?_
          intro v5 w5 ho5 hg5 hor5
          have hAl5 : (allOf (L.take (i + 1))).length = (allOf (L.take i)).length + q.n := by rw [allOf_next HQ.out, List.length_append, HQS.out.len]
          have HAl := Lib.hid (show (allOf (L.take (i + 1))).length ≤ (i + 1) * 300 by omega)
          have hrow : w5.ownsRow w.heap.size 94 3 v5 (allOf (L.take (i + 1))).length ((allOf (L.take (i + 1))).flatMap rcell) := by
            rw [hAl5, allOf_next HQ.out, List.flatMap_append]; exact ho5
          have HW5 := Lib.hid (HW1.out.grown HA1.out hg5 (by decide) (by decide))
          have HB5 := Lib.hid (show Below w.heap.size w w5 from HB1.out.grown hg5 HB1.out.size (fun k hk => (HA1.out.lt k hk).1))
          obtain ⟨A5, c5, rfl, hc5⟩ := own_slice hrow
          have HA5 := Lib.hid hrow
          have hal5 := HAl.out
          clear ho5 hg5 hor5 hrow HA1 HW1 HB1 HSq hAl5 p1
          go_wp2_with fail
          refine (expand_any (allOf (L.take (i + 1))) A5 _ c5 w5 (Src.of_own HA5.out) (by omega) (HRf.out (i + 1))).mono ?_
          rintro ev w6 ⟨hb6, he6⟩
          have L6 := Lib.hid hb6
          have HB6 := Lib.hid (show Below w.heap.size w w6 from HB5.out.trans (hb6.mono HB5.out.size))
          clear hb6
          cases hE : expR [] (allOf (L.take (i + 1))) with
          | none =>
            rw [hE] at he6
            simp only at he6
            subst he6
            clear hE
            go_wp2
            go_ret
            exact ⟨rfl, HB6.out⟩
          | some t =>
            rw [hE] at he6
            simp only at he6
            obtain ⟨ht16, A6, c6, rfl, ho6⟩ := he6
            by_cases h8 : 8000 < t.length
            · have h8I : (8000 : Int) < (t.length : Int) := by omega
              clear hE
              go_wp2
              go_ret
              exact ⟨rfl, HB6.out⟩
            · have h8I : ¬ (8000 : Int) < (t.length : Int) := by omega
              have h8D : decide ((8000 : Int) < (t.length : Int)) = false := by simpa using h8I
              have HO6 := Lib.hid ho6
              have HE2 := Lib.hid hE
              obtain ⟨pa, pl, hqpl, hok, hsay, hoka⟩ := exp_more HE.out (by rw [← allOf_next HQ.out]; exact hE) (fun z hz => by rw [← allOf_next HQ.out] at hz; have := HRf.out (i + 1) z hz; unfold Rp.fine at this; omega)
              obtain ⟨rr, hrr⟩ := say_pre pl s
              have hts : t = s ++ rr := by rw [← hsay, hrr]
              have HTb := Lib.hid (show ∀ z ∈ t, 0 ≤ z ∧ z < 256 by rw [← hsay]; exact say_bytes pl s hok HSb.out)
              have HFp := Lib.hid (show ∀ p ∈ pl, Fine p from fun p hp => fine_of _ _ hoka p (by simp [hp]))
              have HPS := Lib.hid (show PSrc w q.A q.n q.c (pl.map Pc.raw) by rw [← hqpl]; exact HQS.out)
              have hpn : pl.length = q.n := by have := HPS.out.len; simpa using this
              have hst8 : s.length ≤ t.length := by rw [hts]; simp
              have HOk := Lib.hid hok
              have HOka := Lib.hid hoka
              have HSay := Lib.hid hsay
              have HTs := Lib.hid hts
              have W6 := Lib.hid (HW5.out.below L6.out)
              have S6 := Lib.hid (show WrStep w5 w6 g own own from WrStep.of_below L6.out)
              clear hE ho6 hqpl hok hsay hoka hrr hts
              go_wp2_with fail
              refine (put_any bt g own 0 1 w6 W6.out (by omega) (by omega) (by omega)).mono ?_
              rintro ev w7 ⟨rfl, own7, ho7, hst7⟩
              have W7 := Lib.hid ho7
              have S7 := Lib.hid (S6.out.trans hst7)
              have T7 := Lib.hid hst7
              have HB7 := Lib.hid (show Below w.heap.size w w7 from HB5.out.trans (S7.out.below hg HLo.out HB5.out.size))
              clear ho7 hst7 W6 S6
              have p0 := keepCell HB7.out hgp p0'
              have hkb := pick_bd q.k 3 (by omega)
              have PK := Lib.hid (fun w => pick_any q.k 3 w hqb (by omega))
              generalize pickI q.k 3 = kd at *
              obtain hkd | hkd | hkd : kd = 0 ∨ kd = 1 ∨ kd = 2 := by omega
              · subst hkd
                go_wp2_with (go_at_call 15; refine (PK.out _).mono ?_; rintro ev w8 ⟨rfl, rfl⟩)
                refine (put_any (bt ++ bitsL 0 1) g own7 0 2 _ W7.out (by omega) (by omega) (by rw [List.length_append, bitsL_len]; omega)).mono ?_
                rintro ev w8 ⟨rfl, own8, ho8, hst8⟩
                have W8 := Lib.hid ho8
                have S8 := Lib.hid (S7.out.trans hst8)
                have T8 := Lib.hid (T7.out.trans hst8)
                have HB8 := Lib.hid (show Below w.heap.size w w8 from HB5.out.trans (S8.out.below hg HLo.out HB5.out.size))
                have Lo8 := Lib.hid (S8.out.lo HLo.out HB5.out.size)
                have hb2 : (bt ++ bitsL 0 1 ++ bitsL 0 2).length = bt.length + 3 := by simp only [List.length_append, bitsL_len]
                clear ho8 hst8 W7 S7 HB7 PK p0 T7
                obtain ⟨m, hm1, hm2⟩ : ∃ m, t.length ≤ s.length + m ∧ s.length + m ≤ t.length := ⟨t.length - s.length, by omega, by omega⟩
                have hcl : (t.drop s.length).length = m := by rw [List.length_drop]; omega
                have hrr : t.drop s.length = rr := by rw [HTs.out]; simp
                have HKd := Lib.hid (show Kd 0 s t (bt.length + 3) (stoX (bt.length + 3) (t.drop s.length)) by
                  have h1 := kd_sto (s := s) (c := t.drop s.length) (p := bt.length + 3) (fun b hb => HTb.out b (List.mem_of_mem_drop hb)) (by omega)
                  rw [show s ++ t.drop s.length = t by rw [hrr, ← HTs.out]] at h1
                  exact h1)
                have HEq := Lib.hid (stoX_eq (bt.length + 3) (t.drop s.length) (bt ++ bitsL 0 1 ++ bitsL 0 2) hb2)
                rw [hcl] at HEq
                generalize hbt2 : bt ++ bitsL 0 1 ++ bitsL 0 2 = bt2 at *
                have HB2 := Lib.hid hbt2
                clear hbt2
                have hpad : (bt2 ++ List.replicate ((8 - bt2.length % 8) % 8) (0 : Int)).length ≤ bt2.length + 8 := by rw [List.length_append, List.length_replicate]; omega
                have e1 : (t.length : Int) - (s.length : Int) = (m : Int) := by omega
                have e2 : (m : Int) % 4294967296 = (m : Int) := by omega
                have e3 : ((65535 : Int) - (m : Int)) % 4294967296 = ((65535 - m : Nat) : Int) := by omega
                have e4 : (65535 : Int) - (m : Int) = ((65535 - m : Nat) : Int) := by omega
                have e5 : ((65535 - m : Nat) : Int) % 4294967296 = ((65535 - m : Nat) : Int) := by omega
                have hm3 : 65535 - m < 4294967296 := by omega
                generalize 65535 - m = m2 at *
                clear hrr
                go_wp2_with fail
                refine (walign_any bt2 g own8 w8 W8.out (by omega)).mono ?_
                rintro ev wa ⟨rfl, owna, hoa, hsta⟩
                have Wa := Lib.hid hoa
                have Sa := Lib.hid (S8.out.trans hsta)
                have Ta := Lib.hid (T8.out.trans hsta)
                clear hoa hsta W8 S8 T8
                generalize bt2 ++ List.replicate ((8 - bt2.length % 8) % 8) (0 : Int) = bt3 at *
                go_wp2_with fail
                refine (put_any bt3 g owna m 16 wa Wa.out (by omega) (by omega) (by omega)).mono ?_
                rintro ev wb ⟨rfl, ownb, hob, hstb⟩
                have Wb := Lib.hid hob
                have Sb := Lib.hid (Sa.out.trans hstb)
                have Tb := Lib.hid (Ta.out.trans hstb)
                clear hob hstb Wa Sa Ta
                go_wp2_with fail
                refine (put_any (bt3 ++ bitsL m 16) g ownb m2 16 wb Wb.out hm3 (by omega) (by rw [List.length_append, bitsL_len]; omega)).mono ?_
                rintro ev wc ⟨rfl, ownc, hoc, hstc⟩
                have Wc := Lib.hid hoc
                have Sc := Lib.hid (Sb.out.trans hstc)
                have Tc := Lib.hid (Tb.out.trans hstc)
                have hb4 : (bt3 ++ bitsL m 16 ++ bitsL m2 16).length ≤ bt.length + 60 := by simp only [List.length_append, bitsL_len]; omega
                generalize bt3 ++ bitsL m 16 ++ bitsL m2 16 = bt4 at *
                clear hoc hstc Wb Sb Tb e1 e2 e3 e4 e5
                obtain ⟨hg5, ho5⟩ := HW5.out.lts
                go_wp2
                go_loopg [15] m (IbT t bt4 s.length g ownc wc)
                case atStart => exact ⟨0, ownc, rfl, by omega, by simpa [byB] using Wc.out, WrStep.refl _ _ _⟩
                case round =>
                  obtain ⟨j, ownj, rfl, hj, hwj, hstj⟩ := hrel
                  have Wj := Lib.hid hwj
                  have Sj := Lib.hid hstj
                  have S9 := Lib.hid (Sc.out.trans hstj)
                  have T9 := Lib.hid (Tc.out.trans hstj)
                  clear hwj hstj
                  have hbl9 : (bt4 ++ byB ((t.drop s.length).take j)).length ≤ bt.length + 60 + 8 * t.length := by
                    rw [List.length_append, byB_len, List.length_take, hcl]; omega
                  by_cases hjm : j < m
                  · obtain ⟨g6, c6', hv6, hge6, hlt6⟩ := HO6.out.form (by omega)
                    injection hv6 with hA6 _ hc6
                    subst hA6 hc6
                    have hjl : s.length + j < t.length := by omega
                    have hjlI : ((s.length + j : Nat) : Int) < (t.length : Int) := by omega
                    have R6 := rd_step HO6.out (g := g) (own := own) (own' := ownj) (w' := wr) T9.out (by omega) (fun e => by have := ho5 _ e; omega)
                    have cz := rdq_cell R6 (Below.refl _ _) hjl
                    rw [Nat.zero_add] at cz
                    have hzb := HTb.out (t.getD (s.length + j) 0) (by rw [List.getD_eq_getElem?_getD, List.getElem?_eq_getElem hjl]; exact List.getElem_mem hjl)
                    have HBy := Lib.hid (ib_byte hjl hzb.1)
                    generalize t.getD (s.length + j) 0 = z at *
                    obtain ⟨zn, rfl⟩ : ∃ zn : Nat, z = zn := ⟨z.toNat, by omega⟩
                    rw [Int.toNat_natCast] at HBy
                    have ez : (zn : Int) % 4294967296 = (zn : Int) := by omega
                    clear R6
                    go_wp2_with fail
                    refine (put_any (bt4 ++ byB ((t.drop s.length).take j)) g ownj zn 8 wr Wj.out (by omega) (by omega) (by omega)).mono ?_
                    rintro ev wy ⟨rfl, own2, ho2, hst2⟩
                    have Y1 := Lib.hid ho2
                    have Y2 := Lib.hid (Sj.out.trans hst2)
                    clear ho2 hst2
                    go_wp2
                    go_roundg (gk - 1)
                    case measure => omega
                    case rel =>
                      refine ⟨j + 1, own2, by go_num, by omega, ?_, Y2.out⟩
                      rw [HBy.out, ← List.append_assoc]
                      exact Y1.out
                  · obtain rfl : j = m := by omega
                    have hjlI : ¬ ((s.length + j : Nat) : Int) < (t.length : Int) := by omega
                    rw [List.take_of_length_le (by omega)] at Wj hbl9
                    go_wp2
                    go_roundg (gk0 - 1)
                    case measure => (have := HGk.out; omega)
                    case rel =>
                      have hbs := blk_step (n := n) (la := 0) (kn := 0) HLa.out (by omega) HPre.out (by omega) HKd.out
                      have h9 := Wj.out
                      rw [← HEq.out, ← HB2.out] at h9
                      refine ⟨i + 1, bt ++ (bitsL 0 1 ++ bitsL 0 2) ++ stoX (bt.length + 3) (t.drop s.length), t, ownj, by go_num, by omega, S9.out.keeps HW5.out HA5.out (by decide) (by decide), ?_, S9.out.lo HLo.out HB5.out.size, HE2.out, by omega, fun h => hbs.1 h, fun _ h => hbs.2 h, ?_, ?_, HTb.out, HB5.out.trans (S9.out.below hg HLo.out HB5.out.size), ?_⟩
                      · simpa only [List.append_assoc] using h9
                      · simp only [List.length_append, bitsL_len, stoX, List.length_replicate, byB_len, hcl]; omega
                      · simp only [List.length_append, bitsL_len]; omega
                      · have := HAl.out; omega
              · subst hkd
                go_wp2_with (go_at_call 15; refine (PK.out _).mono ?_; rintro ev w8 ⟨rfl, rfl⟩)
                refine (put_any (bt ++ bitsL 0 1) g own7 1 2 _ W7.out (by omega) (by omega) (by rw [List.length_append, bitsL_len]; omega)).mono ?_
                rintro ev w8 ⟨rfl, own8, ho8, hst8⟩
                have W8 := Lib.hid ho8
                have S8 := Lib.hid (S7.out.trans hst8)
                have T8 := Lib.hid (T7.out.trans hst8)
                have HB8 := Lib.hid (show Below w.heap.size w w8 from HB5.out.trans (S8.out.below hg HLo.out HB5.out.size))
                have Lo8 := Lib.hid (S8.out.lo HLo.out HB5.out.size)
                have hb2 : (bt ++ bitsL 0 1 ++ bitsL 1 2).length = bt.length + 3 := by simp only [List.length_append, bitsL_len]
                clear ho8 hst8 W7 S7 HB7 PK p0 T7
                have HKd := Lib.hid (show Kd 1 s t (bt.length + 3) (pcsB fixedL fixedD pl) by rw [← HSay.out]; exact kd_fix HOk.out HOka.out)
                have HXl := Lib.hid (ib_fix_le (by omega) HFp.out)
                go_wp2_with fail
                refine (rfixed_own w8).mono ?_
                rintro ev wa ⟨FA, FB, ca, cb, rfl, hfa, hfb, hba⟩
                have FA1 := Lib.hid (own_low hfa)
                have FB1 := Lib.hid (own_low hfb)
                have Wa := Lib.hid (W8.out.below hba)
                have Sa := Lib.hid (S8.out.trans (WrStep.of_below hba))
                have HBa := Lib.hid (show Below w.heap.size w wa from HB8.out.trans (hba.mono HB8.out.size))
                clear hfa hfb hba W8 S8 HB8
                have p1 := keepCell HBa.out hgp p1'
                go_wp2_with fail
                refine (ibpieces_any (bt ++ bitsL 0 1 ++ bitsL 1 2) g own8 fixedL fixedD FA FB 288 ca 32 cb pl q.A q.n q.c w wa Wa.out FA1.out FB1.out fix_ok fix_okD (by omega) (by omega) HPS.out (by omega) HFp.out HBa.out hg Lo8.out (by omega)).mono ?_
                rintro ev w9 ⟨rfl, own9, ho9, hst9⟩
                have W9 := Lib.hid ho9
                have S9 := Lib.hid (Sa.out.trans hst9)
                clear ho9 hst9 Wa Sa p1
                go_wp2
                go_roundg (gk0 - 1)
                case measure => (have := HGk.out; omega)
                case rel =>
                  have hbs := blk_step (n := n) (la := 0) (kn := 1) HLa.out (by omega) HPre.out (by omega) HKd.out
                  have eb : bt ++ bitsL 0 1 ++ bitsL 1 2 ++ (pcsB fixedL fixedD pl) = bt ++ (bitsL 0 1 ++ bitsL 1 2) ++ (pcsB fixedL fixedD pl) := by simp only [List.append_assoc]
                  refine ⟨i + 1, bt ++ (bitsL 0 1 ++ bitsL 1 2) ++ (pcsB fixedL fixedD pl), t, own9, by go_num, by omega, S9.out.keeps HW5.out HA5.out (by decide) (by decide), by rw [← eb]; exact W9.out, S9.out.lo HLo.out HB5.out.size, HE2.out, by omega, fun h => hbs.1 h, fun _ h => hbs.2 h, ?_, ?_, HTb.out, HB5.out.trans (S9.out.below hg HLo.out HB5.out.size), ?_⟩
                  · have := HXl.out
                    simp only [List.length_append, bitsL_len]; omega
                  · simp only [List.length_append, bitsL_len]; omega
                  · have := HAl.out; omega
              · subst hkd
                go_wp2_with (go_at_call 15; refine (PK.out _).mono ?_; rintro ev w8 ⟨rfl, rfl⟩)
                refine (put_any (bt ++ bitsL 0 1) g own7 2 2 _ W7.out (by omega) (by omega) (by rw [List.length_append, bitsL_len]; omega)).mono ?_
                rintro ev w8 ⟨rfl, own8, ho8, hst8⟩
                have W8 := Lib.hid ho8
                have S8 := Lib.hid (S7.out.trans hst8)
                have T8 := Lib.hid (T7.out.trans hst8)
                have HB8 := Lib.hid (show Below w.heap.size w w8 from HB5.out.trans (S8.out.below hg HLo.out HB5.out.size))
                have Lo8 := Lib.hid (S8.out.lo HLo.out HB5.out.size)
                have hb2 : (bt ++ bitsL 0 1 ++ bitsL 2 2).length = bt.length + 3 := by simp only [List.length_append, bitsL_len]
                clear ho8 hst8 W7 S7 HB7 PK p0 T7
                have HKd := Lib.hid (show Kd 2 s t (bt.length + 3) (dynX pl) by rw [← HSay.out]; exact kd_dyn HOk.out HOka.out (by omega))
                have HXl := Lib.hid (ib_dyn_le (by omega) HFp.out)
                have p1 := keepCell HB8.out hgp p1'
                go_wp2_with fail
                refine (ibdynamic_any (bt ++ bitsL 0 1 ++ bitsL 2 2) g own8 pl q.A q.n q.c w w8 W8.out HPS.out (by omega) HFp.out HB8.out hg Lo8.out (by omega)).mono ?_
                rintro ev w9 ⟨rfl, own9, ho9, hst9⟩
                have W9 := Lib.hid ho9
                have S9 := Lib.hid (S8.out.trans hst9)
                clear ho9 hst9 W8 S8 p1
                go_wp2
                go_roundg (gk0 - 1)
                case measure => (have := HGk.out; omega)
                case rel =>
                  have hbs := blk_step (n := n) (la := 0) (kn := 2) HLa.out (by omega) HPre.out (by omega) HKd.out
                  have eb : bt ++ bitsL 0 1 ++ bitsL 2 2 ++ (dynX pl) = bt ++ (bitsL 0 1 ++ bitsL 2 2) ++ (dynX pl) := by simp only [List.append_assoc]
                  refine ⟨i + 1, bt ++ (bitsL 0 1 ++ bitsL 2 2) ++ (dynX pl), t, own9, by go_num, by omega, S9.out.keeps HW5.out HA5.out (by decide) (by decide), by rw [← eb]; exact W9.out, S9.out.lo HLo.out HB5.out.size, HE2.out, by omega, fun h => hbs.1 h, fun _ h => hbs.2 h, ?_, ?_, HTb.out, HB5.out.trans (S9.out.below hg HLo.out HB5.out.size), ?_⟩
                  · have := HXl.out
                    simp only [List.length_append, bitsL_len]; omega
                  · simp only [List.length_append, bitsL_len]; omega
                  · have := HAl.out; omega
    · have hltI : ¬ (i : Int) < (n : Int) := by omega
      clear HPre0
      by_cases h0 : n = 0
      · have h0I : ((n : Int) == 0) = true := by rw [h0]; rfl
        go_wp2
        go_ret
        exact ⟨rfl, HB.out⟩
      · have h0I : ((n : Int) == 0) = false := by simp; omega
        have h01 := Lib.hid HW.out.bit01
        have HRd := Lib.hid (fin_reads (HFin.out (by omega) (by omega)) h01.out (by omega))
        have hpl : (packB bt).length ≤ 200000 := by rw [packB_len]; omega
        have PK := Lib.hid (fun (bs : List Int) (hB : Bytes bs) (hl : bs.length = (bt.length + 7) / 8) (hn : leNum bs = numOf bt) => pack_is hB h01.out hl hn)
        generalize packB bt = S at *
        have HO1 := Lib.hid (ib_infOut HRd.out HMy.out (m := (10000 : Int)) (by omega) (by omega))
        obtain ⟨Av, cv, rfl, hcv⟩ := own_slice HA.out
        clear HFin
        go_wp2_with fail
        refine (expand_any (allOf (L.take i)) Av _ cv wr (Src.of_own HA.out) (by omega) (fun z hz => (allOf_mem hz).elim fun b hb => (HL.out.2 b hb.1).2.1 z hb.2)).mono ?_
        rintro ev w1 ⟨hb1, he1⟩
        rw [HE.out] at he1
        simp only at he1
        obtain ⟨hs16, A1, c1, rfl, ho1⟩ := he1
        have O1 := Lib.hid (RdI.of_own ho1)
        have W1 := Lib.hid (HW.out.below hb1)
        have B1 := Lib.hid (show Below w.heap.size w w1 from HB.out.trans (hb1.mono HB.out.size))
        clear hb1 ho1 HA HW HB
        go_wp2_with fail
        refine (wbytes_any bt g own w1 W1.out (by omega)).mono ?_
        rintro ev w2 ⟨Ab, xb, bs, rfl, hob, hbb, hbl2, hbn, hb2⟩
        obtain rfl := PK.out bs hbb hbl2 hbn
        have O2 := Lib.hid (O1.out.below hb2)
        have W2 := Lib.hid (W1.out.below hb2)
        have B2 := Lib.hid (show Below w.heap.size w w2 from B1.out.trans (hb2.mono B1.out.size))
        clear hb2 hob O1 W1 B1 hbb hbl2 hbn
        go_wp2_with fail
        refine (wbytes_any bt g own w2 W2.out (by omega)).mono ?_
        rintro ev w3 ⟨Ac, xc, bs', rfl, hoc, hbb', hbl', hbn', hb3⟩
        obtain rfl := PK.out bs' hbb' hbl' hbn'
        have O3 := Lib.hid (O2.out.below hb3)
        have B3 := Lib.hid (show Below w.heap.size w w3 from B2.out.trans (hb3.mono B2.out.size))
        have C3 := Lib.hid (RdI.of_own hoc)
        clear hb3 hoc O2 W2 B2 hbb' hbl' hbn' PK
        go_wp2_with fail
        refine (copy_bytes bs' Ac bs'.length xc w3 C3.out (by omega)).mono ?_
        rintro ev w4 ⟨A4, x4, rfl, ho4, hb4⟩
        have O4 := Lib.hid ho4
        have L4 := Lib.hid hb4
        have B4 := Lib.hid (show Below w.heap.size w w4 from B3.out.trans (hb4.mono B3.out.size))
        clear ho4 hb4
        have HSm := Lib.hid (show Src w4 1 (.slice M m d) m (more.map (Value.int .u8)) from Src.of_rd (HM.out.below B4.out))
        go_wp2_with (at_builtin; refine heldG ?_)
        unfold HeldG
        refine app_src rfl (.tmp 164) (.tmp 165) 22 rfl w3.heap.size 5 _ 1 1 Tryd.underlying22 infoByte rfl (by omega) _ bs'.length _ rfl O4.out _ m _ rfl HSm.out (by intro y hy; obtain ⟨z, _, rfl⟩ := List.mem_map.1 hy; rfl) (by omega) (by omega) L4.out.size ?_
        intro v5 w5 ho5 hg5 hor5
        replace hg5 : w4.grownBy w5 (Value.slice A4 bs'.length x4).ownBlock := hg5
        have hrow : w5.ownsRow w3.heap.size 5 1 v5 (bs'.length + m) ((bs' ++ more).map (Value.int .u8)) := by rw [List.map_append]; exact ho5
        obtain ⟨A5, x5, rfl, hx5⟩ := own_slice hrow
        have L5 := Lib.hid (L4.out.grown hg5 L4.out.size (fun k hk => (O4.out.lt k hk).1))
        have B5 := Lib.hid (show Below w.heap.size w w5 from B3.out.trans (L5.out.mono B3.out.size))
        have R5 := Lib.hid (RdI.of_own hrow)
        clear ho5 hg5 hor5 hrow O4 L4 B4 HSm
        go_wp2_with fail
        refine (inflate_any (bs' ++ more) A5 (bs'.length + m) x5 10000 w5 R5.out (fun z hz => by rcases List.mem_append.1 hz with h | h; exact HRd.out.1 z h; exact HMy.out z h) (by omega) (HT.out.below B5.out)).mono ?_
        intro ev w6 hp
        obtain ⟨A6, x6, rfl, ho6, hb6⟩ := ib_get HO1.out hp
        have R6 := Lib.hid (RdI.of_own ho6)
        have L6 := Lib.hid (show Below w3.heap.size w3 w6 from L5.out.trans (hb6.mono L5.out.size))
        have B6 := Lib.hid (show Below w.heap.size w w6 from B5.out.trans (hb6.mono B5.out.size))
        clear ho6 hb6 hp HO1 R5
        have dS : ((bs'.length : Int) == (bs'.length : Int)) = true := by simp
        go_wp2_with fail
        refine (same_bytes s s A6 A1 s.length s.length x6 c1 w6 R6.out (O3.out.below L6.out) (by omega) (by omega)).mono ?_
        rintro ev w7 ⟨rfl, hb7⟩
        have B7 := Lib.hid (show Below w.heap.size w w7 from B6.out.trans (hb7.mono B6.out.size))
        clear hb7
        have ds : decide (s = s) = true := by simp
        go_wp2
        go_ret
        exact ⟨rfl, B7.out⟩
end Go.Proofs.YtlhaehefhhcgaaaDoor

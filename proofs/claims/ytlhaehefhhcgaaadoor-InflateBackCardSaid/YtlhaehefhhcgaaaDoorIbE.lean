/-
  lz.Expand, walked.
-/
import Derived.Test.YtlhaehefhhcgaaaDoorIbW
namespace Go.Proofs.YtlhaehefhhcgaaaDoor
open Go.RowKit
set_option linter.unusedVariables false
set_option linter.unusedSimpArgs false

def Rp.fine (q : Rp) : Prop := 0 ≤ q.b ∧ q.b < 256 ∧ -9223372036854775808 ≤ q.n ∧ q.n ≤ 9223372036854775807 ∧ -9223372036854775808 ≤ q.d ∧ q.d ≤ 9223372036854775807
def stepR (t : List Int) (q : Rp) : Option (List Int) := match exp1 t q with
  | none => none
  | some o => if 65536 < o.length then none else some o
theorem expR_next {l : List Rp} {i : Nat} {q : Rp} {t : List Int} (hq : l[i]? = some q) (h : expR [] (l.take i) = some t) : expR [] (l.take (i + 1)) = stepR t q ∧ (stepR t q = none → expR [] l = none) := by
  have hi : i < l.length := by
    rcases Nat.lt_or_ge i l.length with h1 | h1
    · exact h1
    · rw [List.getElem?_eq_none h1] at hq; cases hq
  have hqe : l[i] = q := by rw [List.getElem?_eq_getElem hi] at hq; injection hq
  constructor
  · rw [take_getq hq, expR_append, h]
    unfold stepR
    show expR t [q] = _
    rw [expR]
    cases exp1 t q with
    | none => rfl
    | some o => simp only; split <;> rfl
  · intro hn
    have e : l = l.take i ++ q :: l.drop (i + 1) := by
      have h1 := List.take_append_drop i l
      rw [List.drop_eq_getElem_cons hi, hqe] at h1
      exact h1.symm
    rw [e, expR_append, h]
    show expR t (q :: l.drop (i + 1)) = none
    unfold stepR at hn
    rw [expR]
    cases hx : exp1 t q with
    | none => rfl
    | some o =>
      rw [hx] at hn
      simp only at hn ⊢
      split
      · rfl
      · rename_i h3
        rw [if_neg h3] at hn; cases hn
def ExpPost (l : List Rp) (w : World) (ev : Ending) (w' : World) : Prop :=
  Below w.heap.size w w' ∧ match expR [] l with
    | none => ev = .returned (.tuple #[.slice none 0 0, .bool false])
    | some t => t.length ≤ 65536 ∧ ∃ A c, ev = .returned (.tuple #[.slice A t.length c, .bool true]) ∧ w'.ownsRow w.heap.size 5 1 (.slice A t.length c) t.length (t.map (Value.int .u8))
def ExI (l : List Rp) (w : World) (k : Nat) (ov iv : Value) (wr : World) : Prop :=
  ∃ (i : Nat) (t : List Int), iv = .int .i64 (i : Int) ∧ i + k = l.length ∧ expR [] (l.take i) = some t ∧ t.length ≤ 65536 ∧ wr.ownsRow w.heap.size 5 1 ov t.length (t.map (Value.int .u8)) ∧ Below w.heap.size w wr
def ExJ (t : List Int) (nn dn gp : Nat) (w : World) (k : Nat) (ov iv : Value) (wr : World) : Prop :=
  ∃ (j : Nat), iv = .int .i64 (j : Int) ∧ j + k = nn ∧ wr.ownsRow w.heap.size 5 1 ov (copyR t dn j).length ((copyR t dn j).map (Value.int .u8)) ∧ Below w.heap.size w wr ∧ Blk wr gp 94 #[.int .u8 0, .int .i64 (nn : Int), .int .i64 (dn : Int)]
theorem ex_no {l : List Rp} {w w' : World} (h : expR [] l = none) (hb : Below w.heap.size w w') : ExpPost l w (.returned (.tuple #[.slice none 0 0, .bool false])) w' := by
  refine ⟨hb, ?_⟩
  rw [h]
theorem exp1_lit {t : List Int} {q : Rp} (h1 : q.n = 0) (h2 : q.d = 0) : exp1 t q = some (t ++ [q.b]) := by unfold exp1; rw [if_pos ⟨h1, h2⟩]
theorem exp1_mt {t : List Int} {q : Rp} (h : q.mt t = true) : exp1 t q = some (copyR t q.d.toNat q.n.toNat) := by
  unfold exp1
  have hm := h
  simp only [Rp.mt, decide_eq_true_eq] at hm
  rw [if_neg (by omega), if_pos h]
theorem exp1_no {t : List Int} {q : Rp} (h : q.mt t = false) (h2 : ¬ (q.n = 0 ∧ q.d = 0)) : exp1 t q = none := by
  unfold exp1
  rw [if_neg h2, if_neg (by rw [h]; decide)]
theorem stepR_no {t : List Int} {q : Rp} (h : exp1 t q = none) : stepR t q = none := by unfold stepR; rw [h]
theorem stepR_big {t o : List Int} {q : Rp} (h : exp1 t q = some o) (hb : 65536 < o.length) : stepR t q = none := by unfold stepR; rw [h]; simp only; rw [if_pos hb]
theorem stepR_ok {t o : List Int} {q : Rp} (h : exp1 t q = some o) (hb : ¬ 65536 < o.length) : stepR t q = some o := by unfold stepR; rw [h]; simp only; rw [if_neg hb]

theorem apart_of {v : Value} {k : Nat} (h : v.ownBlock = none ∨ v.ownBlock ≠ some k) : some k ≠ v.ownBlock := by
  rintro e
  rcases h with a | a
  · rw [a] at e; cases e
  · exact a e.symm
theorem src_at {W : World} {t : TypeId} {n : Nat} (h : W.heap.size = n) (y : Value) : Src (W.alloc (.cells #[y] t)) 1 (.slice (some ⟨n, 0, none⟩) 1 1) 1 [y] := by
  rw [← h]; exact src_one8' _ _ _
theorem range3 {w : World} {b o : Nat} {x y z : Value} (h0 : w.cell? ⟨b, o, none⟩ = some x) (h1 : w.cell? ⟨b, o + 1, none⟩ = some y) (h2 : w.cell? ⟨b, o + 2, none⟩ = some z) : w.rangeAt b o [x, y, z] := by
  intro j v hj
  match j, hj with
  | 0, hj => simp at hj; subst hj; exact h0
  | 1, hj => simp at hj; subst hj; exact h1
  | 2, hj => simp at hj; subst hj; exact h2
set_option maxHeartbeats 3200000 in
set_option maxRecDepth 100000 in
theorem expand_any (l : List Rp) (A : Option Addr) (n c : Nat) (w : World) (hl : PSrc w A n c l) (hn : n ≤ 100000) (hf : ∀ q ∈ l, q.fine) :
    Calls Tryd.prog 18 #[.slice A n c] w (ExpPost l w) := by
  have HL := Lib.hid hl
  have HF := Lib.hid hf
  have hln := hl.len
  clear hl hf
  go_enter Tryd.func18, Tryd.ntmps18
  go_wp2
  go_loopg [4, 10] n (ExI l w)
  case atStart => exact ⟨0, [], rfl, by omega, rfl, by simp, World.ownsRow_nil _ _ _ _, Below.refl _ _⟩
  case round =>
    obtain ⟨i, t, rfl, hi, het, htl, ho, hb⟩ := hrel
    obtain ⟨gk0, hgk0⟩ : ∃ x, x = gk := ⟨_, rfl⟩
    rw [← hgk0] at hi
    have HGk := Lib.hid hgk0
    clear hgk0
    have HE := Lib.hid het
    have HO := Lib.hid ho
    have HB := Lib.hid hb
    clear het ho hb
    by_cases hlt : i < n
    · have hltI : (i : Int) < (n : Int) := by omega
      obtain ⟨gp, off, q, rfl, hgp, hq, p0', p1', p2'⟩ := HL.out.at_ hlt
      have p0 := keepCell HB.out hgp p0'
      have p1 := keepCell HB.out hgp p1'
      have p2 := keepCell HB.out hgp p2'
      have hfq := HF.out q (List.mem_of_getElem? hq)
      obtain ⟨hnx, hno⟩ := expR_next hq HE.out
      have HNx := Lib.hid hnx
      have HNo := Lib.hid hno
      obtain ⟨Ao, co, rfl, hco⟩ := own_slice HO.out
      obtain ⟨wA, hwA⟩ : ∃ wA, wA = wr.alloc (.cells #[.int .u8 q.b, .int .i64 q.n, .int .i64 q.d] 94) := ⟨_, rfl⟩
      have LA := Lib.hid (show Below wr.heap.size wr wA by rw [hwA]; exact (Below.refl _ _).alloc (Nat.le_refl _) _)
      have KA := Lib.hid (show Blk wA wr.heap.size 94 #[.int .u8 q.b, .int .i64 q.n, .int .i64 q.d] by rw [hwA]; exact Blk.made _ _ _)
      have OA := Lib.hid (own_below HO.out LA.out)
      have BA := Lib.hid (show Below w.heap.size w wA from HB.out.trans (LA.out.mono HB.out.size))
      have HRg := Lib.hid (show wr.rangeAt gp (off + i * 3) [.int .u8 q.b, .int .i64 q.n, .int .i64 q.d] from range3 p0 p1 p2)
      clear hq hnx hno p0 p1 p2 p0' p1' p2'
      obtain ⟨qb, qn, qd⟩ := q
      simp only at HRg hwA KA hfq
      by_cases hm : (Rp.mk qb qn qd).mt t = true
      · have HX := Lib.hid (exp1_mt hm)
        simp only [Rp.mt, decide_eq_true_eq] at hm
        obtain ⟨rfl, h3, h258, h1, h32, hle⟩ := hm
        obtain ⟨nn, rfl⟩ : ∃ nn : Nat, qn = nn := ⟨qn.toNat, by omega⟩
        obtain ⟨dn, rfl⟩ : ∃ dn : Nat, qd = dn := ⟨qd.toNat, by omega⟩
        have hn0 : ((nn : Int) == 0) = false := by simp; omega
        obtain ⟨mn, hmn⟩ : ∃ mn : Int, mn = if (t.length : Int) < 32768 then (t.length : Int) else 32768 := ⟨_, rfl⟩
        have hmnle : (dn : Int) ≤ mn := by rw [hmn]; split <;> omega
        replace hmn := hmn.symm
        clear hle
        go_wp2_with (refine wpList_load_mid rfl 94 (.tmp 12) rfl gp (off + i * 3) rfl _ _ HRg.out rfl rfl rfl ?_)
        go_loopg [4, 59] nn (ExJ t nn dn wr.heap.size w)
        case atStart =>
          rw [← hwA]
          exact ⟨0, rfl, by omega, OA.out, BA.out, KA.out⟩
        case round =>
          clear hwA
          obtain ⟨j, rfl, hj, ho2, hb2, hk2⟩ := hrel
          have TL := Lib.hid (copy_len t dn j)
          have hTb : (copyR t dn j).length ≤ 70000 := by have := TL.out; omega
          have O2 := Lib.hid ho2
          have B2 := Lib.hid hb2
          have K2 := Lib.hid hk2
          clear ho2 hb2 hk2
          by_cases hjn : j < nn
          · have hjI : (j : Int) < (nn : Int) := by omega
            have CS := Lib.hid (show copyR t dn (j + 1) = copyR t dn j ++ [(copyR t dn j).getD ((copyR t dn j).length - dn) 0] from rfl)
            have hTd : dn ≤ (copyR t dn j).length := by have := TL.out; omega
            generalize copyR t dn j = T at *
            obtain ⟨go, co2, rfl, hco2, hgo⟩ := World.ownsRow.form O2.out (by omega)
            have m2 := K2.out.cell (i := 2) rfl
            have cc := O2.out.cellAt (T.length - dn) (by omega)
            have e8 : (T.map (Value.int .u8))[T.length - dn]? = some (.int .u8 (T.getD (T.length - dn) 0)) := by
              rw [List.getElem?_map, List.getElem?_eq_getElem (by omega), List.getD_eq_getElem?_getD, List.getElem?_eq_getElem (by omega)]; rfl
            rw [e8] at cc
            clear e8
            generalize T.getD (T.length - dn) 0 = z at *
            have eI : (T.length : Int) - (dn : Int) = ((T.length - dn : Nat) : Int) := by omega
            have hil : T.length - dn < T.length := by omega
            generalize T.length - dn = ix at *
            go_wp2_with (at_builtin; refine heldG ?_)
            unfold HeldG
            refine app_src rfl (.tmp 61) (.tmp 70) 22 rfl w.heap.size 5 _ 1 1 Tryd.underlying22 infoByte rfl (by omega) _ T.length _ rfl (O2.out.alloc _) _ 1 [Value.int .u8 z] rfl (src_one8' _ _ _) (by simp [Value.oneCell']) (by omega) (by omega) (by have := B2.out.size; simp; omega) ?_
            intro v8 w8 ho8 hg8 hor8
            have O8 := Lib.hid (show w8.ownsRow w.heap.size 5 1 v8 (T ++ [z]).length ((T ++ [z]).map (Value.int .u8)) by simpa using ho8)
            have B8 := Lib.hid ((B2.out.alloc B2.out.size _).grown hg8 (by have := B2.out.size; simp; omega) (fun k hk => (O2.out.lt k hk).1))
            have K8 := Lib.hid ((K2.out.alloc _).grown hg8 (apart_of (ty_apart K2.out O2.out (by decide))))
            clear ho8 hg8 hor8
            go_wp2
            go_roundg (gk - 1)
            case measure => omega
            case rel => exact ⟨j + 1, by go_num, by omega, by rw [CS.out]; exact O8.out, B8.out, K8.out⟩
          · obtain rfl : j = nn := by omega
            simp only [Int.toNat_natCast] at HX
            generalize hT : copyR t dn j = T at *
            clear hT
            obtain ⟨A9, c9, rfl, hc9⟩ := own_slice O2.out
            by_cases hbig : 65536 < T.length
            · have hbigI : (65536 : Int) < (T.length : Int) := by omega
              go_wp2
              go_ret2
              exact ex_no (HNo.out (stepR_big HX.out hbig)) B2.out
            · have hbigI : ¬ (65536 : Int) < (T.length : Int) := by omega
              rw [stepR_ok HX.out hbig] at HNx
              go_wp2
              go_roundg (gk0 - 1)
              case measure => (have := HGk.out; omega)
              case rel => exact ⟨i + 1, T, by go_num, by omega, HNx.out, by omega, O2.out, B2.out⟩
      · have hm' := Bool.eq_false_iff.2 hm
        replace hm := hm'
        clear hm'
        by_cases hn0 : qn = 0
        · have hn0' : (qn == 0) = true := by simpa using hn0
          by_cases hd0 : qd = 0
          · subst hn0 hd0
            have HX := Lib.hid (exp1_lit (t := t) (q := ⟨qb, 0, 0⟩) rfl rfl)
            simp only at HX
            by_cases hb0 : qb = 0
            · subst hb0
              go_wp2_with (first
                | (refine wpList_load_mid rfl 94 (.tmp 12) rfl gp (off + i * 3) rfl _ _ HRg.out rfl rfl rfl ?_)
                | (at_builtin; refine heldG ?_))
              unfold HeldG
              have HSz := Lib.hid (show wA.heap.size = wr.heap.size + 1 by rw [hwA]; simp)
              rw [← hwA]
              clear hwA
              refine app_src rfl (.tmp 49) (.tmp 52) 22 rfl w.heap.size 5 _ 1 1 Tryd.underlying22 infoByte rfl (by omega) _ t.length _ rfl (OA.out.alloc _) _ 1 [Value.int .u8 0] rfl (src_at HSz.out _) (by simp [Value.oneCell']) (by omega) (by omega) (by have := BA.out.size; simp; omega) ?_
              intro v8 w8 ho8 hg8 hor8
              have O8 := Lib.hid (show w8.ownsRow w.heap.size 5 1 v8 (t ++ [0]).length ((t ++ [0]).map (Value.int .u8)) by simpa using ho8)
              have B8 := Lib.hid ((BA.out.alloc BA.out.size _).grown hg8 (by have := BA.out.size; simp; omega) (fun k hk => (OA.out.lt k hk).1))
              have K8 := Lib.hid ((KA.out.alloc _).grown hg8 (apart_of (ty_apart KA.out OA.out (by decide))))
              have m1 := K8.out.cell (i := 1) rfl
              have m2 := K8.out.cell (i := 2) rfl
              obtain ⟨A8, c8, rfl, hc8⟩ := own_slice O8.out
              clear ho8 hg8 hor8
              go_wp2
              go_loopg [4, 59] 0 (fun (k : Nat) (ov iv : Value) (wr' : World) => ov = .slice A8 (t ++ [0]).length c8 ∧ iv = .int .i64 0 ∧ k = 0 ∧ wr' = w8)
              case atStart => exact ⟨by simp, rfl, rfl, rfl⟩
              case round =>
                obtain ⟨rfl, rfl, rfl, rfl⟩ := hrel
                have hl9 : (t ++ [0]).length = t.length + 1 := by simp
                generalize hT : t ++ [0] = T at *
                have HT := Lib.hid hT
                have HTl := Lib.hid hl9
                clear hT hl9
                by_cases hbig : 65536 < T.length
                · have hbigI : (65536 : Int) < (T.length : Int) := by omega
                  go_wp2
                  go_ret2
                  exact ex_no (HNo.out (stepR_big HX.out hbig)) B8.out
                · have hbigI : ¬ (65536 : Int) < (T.length : Int) := by omega
                  rw [stepR_ok HX.out hbig] at HNx
                  go_wp2
                  go_roundg (gk0 - 1)
                  case measure => (have := HGk.out; omega)
                  case rel => exact ⟨i + 1, T, by go_num, by omega, HNx.out, by omega, O8.out, B8.out⟩
            · have hb0' : (qb == 0) = false := by simpa using hb0
              go_wp2_with (first
                | (refine wpList_load_mid rfl 94 (.tmp 12) rfl gp (off + i * 3) rfl _ _ HRg.out rfl rfl rfl ?_)
                | (at_builtin; refine heldG ?_))
              unfold HeldG
              have HSz := Lib.hid (show wA.heap.size = wr.heap.size + 1 by rw [hwA]; simp)
              rw [← hwA]
              clear hwA
              refine app_src rfl (.tmp 49) (.tmp 52) 22 rfl w.heap.size 5 _ 1 1 Tryd.underlying22 infoByte rfl (by omega) _ t.length _ rfl (OA.out.alloc _) _ 1 [Value.int .u8 qb] rfl (src_at HSz.out _) (by simp [Value.oneCell']) (by omega) (by omega) (by have := BA.out.size; simp; omega) ?_
              intro v8 w8 ho8 hg8 hor8
              have O8 := Lib.hid (show w8.ownsRow w.heap.size 5 1 v8 (t ++ [qb]).length ((t ++ [qb]).map (Value.int .u8)) by simpa using ho8)
              have B8 := Lib.hid ((BA.out.alloc BA.out.size _).grown hg8 (by have := BA.out.size; simp; omega) (fun k hk => (OA.out.lt k hk).1))
              have K8 := Lib.hid ((KA.out.alloc _).grown hg8 (apart_of (ty_apart KA.out OA.out (by decide))))
              have m1 := K8.out.cell (i := 1) rfl
              have m2 := K8.out.cell (i := 2) rfl
              obtain ⟨A8, c8, rfl, hc8⟩ := own_slice O8.out
              clear ho8 hg8 hor8
              go_wp2
              go_loopg [4, 59] 0 (fun (k : Nat) (ov iv : Value) (wr' : World) => ov = .slice A8 (t ++ [qb]).length c8 ∧ iv = .int .i64 0 ∧ k = 0 ∧ wr' = w8)
              case atStart => exact ⟨by simp, rfl, rfl, rfl⟩
              case round =>
                obtain ⟨rfl, rfl, rfl, rfl⟩ := hrel
                have hl9 : (t ++ [qb]).length = t.length + 1 := by simp
                generalize hT : t ++ [qb] = T at *
                have HT := Lib.hid hT
                have HTl := Lib.hid hl9
                clear hT hl9
                by_cases hbig : 65536 < T.length
                · have hbigI : (65536 : Int) < (T.length : Int) := by omega
                  go_wp2
                  go_ret2
                  exact ex_no (HNo.out (stepR_big HX.out hbig)) B8.out
                · have hbigI : ¬ (65536 : Int) < (T.length : Int) := by omega
                  rw [stepR_ok HX.out hbig] at HNx
                  go_wp2
                  go_roundg (gk0 - 1)
                  case measure => (have := HGk.out; omega)
                  case rel => exact ⟨i + 1, T, by go_num, by omega, HNx.out, by omega, O8.out, B8.out⟩
          · have hd0' : (qd == 0) = false := by simpa using hd0
            subst hn0
            by_cases hb0 : qb = 0
            · have hb0' : (qb == 0) = true := by simpa using hb0
              go_wp2_with (refine wpList_load_mid rfl 94 (.tmp 12) rfl gp (off + i * 3) rfl _ _ HRg.out rfl rfl rfl ?_)
              go_ret2
              exact ex_no (HNo.out (stepR_no (exp1_no hm (fun h => hd0 h.2)))) (HB.out.alloc HB.out.size _)
            · have hb0' : (qb == 0) = false := by simpa using hb0
              go_wp2_with (refine wpList_load_mid rfl 94 (.tmp 12) rfl gp (off + i * 3) rfl _ _ HRg.out rfl rfl rfl ?_)
              go_ret2
              exact ex_no (HNo.out (stepR_no (exp1_no hm (fun h => hd0 h.2)))) (HB.out.alloc HB.out.size _)
        · have hn0' : (qn == 0) = false := by simpa using hn0
          by_cases hb0 : qb = 0
          · have hb0' : (qb == 0) = true := by simpa using hb0
            by_cases h3 : 3 ≤ qn
            · by_cases h258 : qn ≤ 258
              · by_cases h1 : 1 ≤ qd
                · obtain ⟨mn, hmn⟩ : ∃ mn : Int, mn = if (t.length : Int) < 32768 then (t.length : Int) else 32768 := ⟨_, rfl⟩
                  have hmnle : ¬ qd ≤ mn := by
                    simp only [Rp.mt, decide_eq_false_iff_not] at hm
                    rw [hmn]
                    split <;> omega
                  replace hmn := hmn.symm
                  go_wp2_with (refine wpList_load_mid rfl 94 (.tmp 12) rfl gp (off + i * 3) rfl _ _ HRg.out rfl rfl rfl ?_)
                  go_ret2
                  exact ex_no (HNo.out (stepR_no (exp1_no hm (fun h => hn0 h.1)))) (HB.out.alloc HB.out.size _)
                · skip
                  go_wp2_with (refine wpList_load_mid rfl 94 (.tmp 12) rfl gp (off + i * 3) rfl _ _ HRg.out rfl rfl rfl ?_)
                  go_ret2
                  exact ex_no (HNo.out (stepR_no (exp1_no hm (fun h => hn0 h.1)))) (HB.out.alloc HB.out.size _)
              · skip
                go_wp2_with (refine wpList_load_mid rfl 94 (.tmp 12) rfl gp (off + i * 3) rfl _ _ HRg.out rfl rfl rfl ?_)
                go_ret2
                exact ex_no (HNo.out (stepR_no (exp1_no hm (fun h => hn0 h.1)))) (HB.out.alloc HB.out.size _)
            · skip
              go_wp2_with (refine wpList_load_mid rfl 94 (.tmp 12) rfl gp (off + i * 3) rfl _ _ HRg.out rfl rfl rfl ?_)
              go_ret2
              exact ex_no (HNo.out (stepR_no (exp1_no hm (fun h => hn0 h.1)))) (HB.out.alloc HB.out.size _)
          · have hb0' : (qb == 0) = false := by simpa using hb0
            go_wp2_with (refine wpList_load_mid rfl 94 (.tmp 12) rfl gp (off + i * 3) rfl _ _ HRg.out rfl rfl rfl ?_)
            go_ret2
            exact ex_no (HNo.out (stepR_no (exp1_no hm (fun h => hn0 h.1)))) (HB.out.alloc HB.out.size _)
    · obtain rfl : i = n := by omega
      have he := HE.out
      rw [List.take_of_length_le (by omega)] at he
      obtain ⟨Ao, co, rfl, hco⟩ := own_slice HO.out
      have HE2 := Lib.hid he
      clear he
      go_wp2
      go_ret2
      refine ⟨HB.out, ?_⟩
      rw [HE2.out]
      exact ⟨htl, Ao, co, rfl, HO.out⟩
end Go.Proofs.YtlhaehefhhcgaaaDoor

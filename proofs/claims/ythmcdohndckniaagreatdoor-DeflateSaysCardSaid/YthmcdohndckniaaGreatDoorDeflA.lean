/-
  deflate: length, distance, trim.
  deflate.trim.
  deflate.runs: a row of lengths in parts.
-/
import Derived.Test.YthmcdohndckniaaGreatDoorStored
import Derived.Test.YthmcdohndckniaaGreatDoorDPlains
namespace Go.Proofs.YthmcdohndckniaaGreatDoor
open Go.RowKit
set_option linter.unusedVariables false

/-- deflate's own tables. -/
def DTabs (w : World) : Prop := TabAt w 1 lbases ∧ TabAt w 2 dbases ∧ TabAt w 0 orderL ∧ 3 ≤ w.heap.size
theorem DTabs.below {w w' : World} (h : DTabs w) (hb : Below w.heap.size w w') : DTabs w' := by
  obtain ⟨h1, h2, h3, h4⟩ := h
  exact ⟨h1.keep (hb.block _ (by omega)), h2.keep (hb.block _ (by omega)), h3.keep (hb.block _ (by omega)), by have := hb.size; omega⟩
def PartPost (a b c : Nat) (w : World) (ev : Ending) (w' : World) : Prop := ev = .returned (.agg #[.int .i64 (a : Int), .int .i64 (b : Int), .int .i64 (c : Int)]) ∧ Below w.heap.size w w'
def LnI (T : List Int) (n m : Nat) (w1 : World) (k0 : Nat) (kv : Value) (wr : World) : Prop := k0 ≤ m ∧ kv = .int .i64 (k0 : Int) ∧ lastLe T n m = lastLe T n k0 ∧ wr = w1
theorem infoPart : (Tryz.prog.info? 87).map (·.size) = some 3 := by kernel_rfl
theorem lb_rule : ∀ k, k < 29 → (lbits.getD k 0).toNat = if 8 ≤ k ∧ k < 28 then k / 4 - 1 else 0 := by decide
theorem length_any (n : Nat) (w : World) (ht : DTabs w) (h3 : 3 ≤ n) (h258 : n ≤ 258) :
    Calls Tryz.prog 30 #[.int .i64 (n : Int)] w (PartPost (257 + lenK n) (n - (lbases.getD (lenK n) 0).toNat) (lbits.getD (lenK n) 0).toNat w) := by
  have HT := Lib.hid ht.1
  have HG := Lib.hid ht.2.2.2
  clear ht
  go_enter Tryz.func30, Tryz.ntmps30
  go_wp2
  go_loopg [3] 28 (LnI lbases n 28 (w.alloc (.cells #[.int .i64 0, .int .i64 0, .int .i64 0] 87)))
  case atStart => exact ⟨Nat.le_refl _, rfl, rfl, rfl⟩
  case round =>
    obtain ⟨hk, rfl, hl, rfl⟩ := hrel
    have HL := Lib.hid hl
    clear hl
    have cT : (w.alloc (.cells #[.int .i64 0, .int .i64 0, .int .i64 0] 87)).cell? ⟨1, gk, none⟩ = some (.int .i64 (lbases.getD gk 0)) := (World.cell?_of_block (a := ⟨_, gk, none⟩) (Below.heap_alloc w _ 1 (by have := HG.out; omega))).trans (HT.out gk (by show gk < 29; omega))
    have hk29 : (gk : Int) < 29 := by omega
    have hb := lb_pos gk (by omega)
    have HS := Lib.hid (show ∀ j, gk = j + 1 → (n : Int) < lbases.getD gk 0 → lastLe lbases n 28 = lastLe lbases n j from fun j hj hlt => by
      subst hj
      rw [HL.out]
      exact if_neg (by omega))
    have HE := Lib.hid (show ¬ (n : Int) < lbases.getD gk 0 → lenK n = gk from fun hlt => by
      unfold lenK
      rw [HL.out]
      cases gk with
      | zero => rfl
      | succ j => exact if_pos (by omega))
    obtain ⟨tv, htv⟩ : ∃ tv, tv = lbases.getD gk 0 := ⟨_, rfl⟩
    have HTV := Lib.hid htv
    rw [← htv] at cT hb
    clear htv
    by_cases hgt : (n : Int) < tv
    · have h0 : gk ≠ 0 := fun h => by
        have := HTV.out
        rw [h] at this
        have e : lbases.getD 0 0 = 3 := rfl
        omega
      have hgt' := hgt
      rw [HTV.out] at hgt'
      have HN := Lib.hid (HS.out (gk - 1) (by omega) hgt')
      clear hgt' HS HE
      go_wp2
      go_roundg (gk - 1)
      case measure => omega
      case rel => exact ⟨by omega, by go_num, HN.out, rfl⟩
    · have hgt' := hgt
      rw [HTV.out] at hgt'
      have HK := Lib.hid (HE.out hgt')
      clear hgt' HS HE
      have e1 : (257 + (gk : Int)) = ((257 + gk : Nat) : Int) := by omega
      have e2 : (n : Int) - tv = ((n - tv.toNat : Nat) : Int) := by omega
      have FIN := Lib.hid (show ∀ c : Nat, (if 8 ≤ gk ∧ gk < 28 then gk / 4 - 1 else 0) = c → c = (lbits.getD (lenK n) 0).toNat from fun c hc => by
        rw [HK.out, ← hc]
        exact (lb_rule gk (by omega)).symm)
      have E1 := Lib.hid e1
      have E2 := Lib.hid e2
      clear e1 e2
      by_cases h8 : 8 ≤ gk
      · by_cases h28 : gk < 28
        · have h8I : (8 : Int) ≤ (gk : Int) := by omega
          have h28I : (gk : Int) < 28 := by omega
          have FC := FIN.out (gk / 4 - 1) (if_pos ⟨h8, h28⟩)
          have e3 : (gk : Int) / 4 - 1 = ((gk / 4 - 1 : Nat) : Int) := by omega
          have FCH := Lib.hid FC
          have E3 := Lib.hid e3
          clear FC e3
          go_wp2
          refine bodyPost_ret (results_blk rfl _ w.heap.size rfl _ _ ((Blk.made w _ _).alloc _) _ Tryz.underlying87 rfl 3 infoPart rfl) rfl ?_
          refine ⟨?_, ((Below.refl _ _).alloc (Nat.le_refl _) _).alloc (by simp) _⟩
          have h0 : (((lbits.getD gk 0).toNat : Nat) : Int) = (gk:Int)/4-1 := by have f := FCH.out; rw [HK.out] at f; rw [← f]; exact E3.out.symm
          rw [E1.out, E2.out, HK.out, HTV.out]
          simp only [List.getD_eq_getElem?_getD] at h0 ⊢
          rw [h0]
        · have h8I : (8 : Int) ≤ (gk : Int) := by omega
          have h28I : ¬ (gk : Int) < 28 := by omega
          have FCH := Lib.hid (FIN.out 0 (if_neg (fun h => h28 h.2)))
          go_wp2
          refine bodyPost_ret (results_blk rfl _ w.heap.size rfl _ _ ((Blk.made w _ _).alloc _) _ Tryz.underlying87 rfl 3 infoPart rfl) rfl ?_
          refine ⟨?_, ((Below.refl _ _).alloc (Nat.le_refl _) _).alloc (by simp) _⟩
          have h0 : (((lbits.getD gk 0).toNat : Nat) : Int) = 0 := by have f := FCH.out; rw [HK.out] at f; rw [← f]; rfl
          rw [E1.out, E2.out, HK.out, HTV.out]
          simp only [List.getD_eq_getElem?_getD] at h0 ⊢
          rw [h0]
      · have h8I : ¬ (8 : Int) ≤ (gk : Int) := by omega
        have FCH := Lib.hid (FIN.out 0 (if_neg (fun h => h8 h.1)))
        go_wp2
        refine bodyPost_ret (results_blk rfl _ w.heap.size rfl _ _ ((Blk.made w _ _).alloc _) _ Tryz.underlying87 rfl 3 infoPart rfl) rfl ?_
        refine ⟨?_, ((Below.refl _ _).alloc (Nat.le_refl _) _).alloc (by simp) _⟩
        have h0 : (((lbits.getD gk 0).toNat : Nat) : Int) = 0 := by have f := FCH.out; rw [HK.out] at f; rw [← f]; rfl
        rw [E1.out, E2.out, HK.out, HTV.out]
        simp only [List.getD_eq_getElem?_getD] at h0 ⊢
        rw [h0]
theorem db_rule : ∀ k, k < 30 → (dbits.getD k 0).toNat = if 4 ≤ k then k / 2 - 1 else 0 := by decide
theorem distance_any (n : Nat) (w : World) (ht : DTabs w) (h3 : 1 ≤ n) (h258 : n ≤ 32768) :
    Calls Tryz.prog 31 #[.int .i64 (n : Int)] w (PartPost (distK n) (n - (dbases.getD (distK n) 0).toNat) (dbits.getD (distK n) 0).toNat w) := by
  have HT := Lib.hid ht.2.1
  have HG := Lib.hid ht.2.2.2
  clear ht
  go_enter Tryz.func31, Tryz.ntmps31
  go_wp2
  go_loopg [3] 29 (LnI dbases n 29 (w.alloc (.cells #[.int .i64 0, .int .i64 0, .int .i64 0] 87)))
  case atStart => exact ⟨Nat.le_refl _, rfl, rfl, rfl⟩
  case round =>
    obtain ⟨hk, rfl, hl, rfl⟩ := hrel
    have HL := Lib.hid hl
    clear hl
    have cT : (w.alloc (.cells #[.int .i64 0, .int .i64 0, .int .i64 0] 87)).cell? ⟨2, gk, none⟩ = some (.int .i64 (dbases.getD gk 0)) := (World.cell?_of_block (a := ⟨_, gk, none⟩) (Below.heap_alloc w _ 2 (by have := HG.out; omega))).trans (HT.out gk (by show gk < 30; omega))
    have hk29 : (gk : Int) < 30 := by omega
    have hb := db_pos gk (by omega)
    have HS := Lib.hid (show ∀ j, gk = j + 1 → (n : Int) < dbases.getD gk 0 → lastLe dbases n 29 = lastLe dbases n j from fun j hj hlt => by
      subst hj
      rw [HL.out]
      exact if_neg (by omega))
    have HE := Lib.hid (show ¬ (n : Int) < dbases.getD gk 0 → distK n = gk from fun hlt => by
      unfold distK
      rw [HL.out]
      cases gk with
      | zero => rfl
      | succ j => exact if_pos (by omega))
    obtain ⟨tv, htv⟩ : ∃ tv, tv = dbases.getD gk 0 := ⟨_, rfl⟩
    have HTV := Lib.hid htv
    rw [← htv] at cT hb
    clear htv
    by_cases hgt : (n : Int) < tv
    · have h0 : gk ≠ 0 := fun h => by
        have := HTV.out
        rw [h] at this
        have e : dbases.getD 0 0 = 1 := rfl
        omega
      have hgt' := hgt
      rw [HTV.out] at hgt'
      have HN := Lib.hid (HS.out (gk - 1) (by omega) hgt')
      clear hgt' HS HE
      go_wp2
      go_roundg (gk - 1)
      case measure => omega
      case rel => exact ⟨by omega, by go_num, HN.out, rfl⟩
    · have hgt' := hgt
      rw [HTV.out] at hgt'
      have HK := Lib.hid (HE.out hgt')
      clear hgt' HS HE
      have e2 : (n : Int) - tv = ((n - tv.toNat : Nat) : Int) := by omega
      have FIN := Lib.hid (show ∀ c : Nat, (if 4 ≤ gk then gk / 2 - 1 else 0) = c → c = (dbits.getD (distK n) 0).toNat from fun c hc => by
        rw [HK.out, ← hc]
        exact (db_rule gk (by omega)).symm)
      have E2 := Lib.hid e2
      clear e2
      by_cases h8 : 4 ≤ gk
      · have h8I : (4 : Int) ≤ (gk : Int) := by omega
        have FC := FIN.out (gk / 2 - 1) (if_pos h8)
        have e3 : (gk : Int) / 2 - 1 = ((gk / 2 - 1 : Nat) : Int) := by omega
        have FCH := Lib.hid FC
        have E3 := Lib.hid e3
        clear FC e3
        go_wp2
        refine bodyPost_ret (results_blk rfl _ w.heap.size rfl _ _ ((Blk.made w _ _).alloc _) _ Tryz.underlying87 rfl 3 infoPart rfl) rfl ?_
        refine ⟨?_, ((Below.refl _ _).alloc (Nat.le_refl _) _).alloc (by simp) _⟩
        have h0 : (((dbits.getD gk 0).toNat : Nat) : Int) = (gk:Int)/2-1 := by have f := FCH.out; rw [HK.out] at f; rw [← f]; exact E3.out.symm
        rw [E2.out, HK.out, HTV.out]
        simp only [List.getD_eq_getElem?_getD] at h0 ⊢
        rw [h0]
      · have h8I : ¬ (4 : Int) ≤ (gk : Int) := by omega
        have FCH := Lib.hid (FIN.out 0 (if_neg h8))
        go_wp2
        refine bodyPost_ret (results_blk rfl _ w.heap.size rfl _ _ ((Blk.made w _ _).alloc _) _ Tryz.underlying87 rfl 3 infoPart rfl) rfl ?_
        refine ⟨?_, ((Below.refl _ _).alloc (Nat.le_refl _) _).alloc (by simp) _⟩
        have h0 : (((dbits.getD gk 0).toNat : Nat) : Int) = 0 := by have f := FCH.out; rw [HK.out] at f; rw [← f]; rfl
        rw [E2.out, HK.out, HTV.out]
        simp only [List.getD_eq_getElem?_getD] at h0 ⊢
        rw [h0]
end Go.Proofs.YthmcdohndckniaaGreatDoor
namespace Go.Proofs.YthmcdohndckniaaGreatDoor
open Go.RowKit
set_option linter.unusedVariables false

def TrI (l : List Int) (least n : Nat) (w : World) (k0 : Nat) (kv : Value) (wr : World) : Prop := k0 ≤ n ∧ kv = .int .i64 (k0 : Int) ∧ trimGo l least n = trimGo l least k0 ∧ least ≤ k0 ∧ wr = w
theorem trim_any (l : List Int) (A : Option Addr) (n cap least : Nat) (w : World) (h : RdI .i64 w A n l) (hn : n ≤ 1000000) (hl : least ≤ n) (hc : n ≤ cap) :
    Calls Tryz.prog 33 #[.slice A n cap, .int .i64 (least : Int)] w fun ev w' => ev = .returned (.slice A (trimGo l least n) cap) ∧ w' = w := by
  have HR := Lib.hid h
  clear h
  go_enter Tryz.func33, Tryz.ntmps33
  go_wp2
  go_loopg [5] n (TrI l least n w)
  case atStart => exact ⟨Nat.le_refl _, rfl, rfl, hl, rfl⟩
  case round =>
    obtain ⟨hk, rfl, ht, hle, rfl⟩ := hrel
    have HT := Lib.hid ht
    clear ht
    have hkc : (gk : Int) ≤ (cap : Int) := by omega
    by_cases hgt : least < gk
    · have hgtI : (least : Int) < (gk : Int) := by omega
      obtain ⟨j, rfl⟩ : ∃ j, gk = j + 1 := ⟨gk - 1, by omega⟩
      obtain ⟨b, off, rfl, _, hx⟩ := HR.out.2 (by omega)
      have cx := hx j (by omega)
      clear hx
      obtain ⟨z, hz⟩ : ∃ z, z = l.getD j 0 := ⟨_, rfl⟩
      have HZ := Lib.hid hz
      rw [← hz] at cx
      clear hz
      by_cases h0 : z = 0
      · subst h0
        have HN := Lib.hid (show trimGo l least n = trimGo l least j by rw [HT.out]; exact if_pos ⟨by omega, HZ.out.symm⟩)
        go_wp2
        go_roundg j
        case measure => omega
        case rel => exact ⟨by omega, by go_num, HN.out, by omega, rfl⟩
      · have d0 : (z == 0) = false := by simpa using h0
        have HN := Lib.hid (show trimGo l least n = j + 1 by rw [HT.out]; exact if_neg (fun h => h0 (HZ.out.trans h.2)))
        go_wp2
        go_ret
        exact ⟨by rw [HN.out]; rfl, rfl⟩
    · have hgtI : ¬ (least : Int) < (gk : Int) := by omega
      have HN := Lib.hid (show trimGo l least n = gk by
        rw [HT.out]
        cases gk with
        | zero => rfl
        | succ j => exact if_neg (fun h => hgt h.1))
      go_wp2
      go_ret
      exact ⟨by rw [HN.out]; rfl, rfl⟩
end Go.Proofs.YthmcdohndckniaaGreatDoor
namespace Go.Proofs.YthmcdohndckniaaGreatDoor
open Go.RowKit
set_option linter.unusedVariables false

def ptcell (q : Pt) : List Value := [.int .i64 (q.s : Int), .int .i64 (q.x : Int), .int .i64 (q.k : Int)]
theorem infoPt3 : (Tryz.prog.info? 87).map (fun i => (i.zero, i.size, i.bytes)) = some (some (.agg #[.int .i64 0, .int .i64 0, .int .i64 0]), 3, 24) := by kernel_rfl
theorem ptcells_len (l : List Pt) : (l.flatMap ptcell).length = l.length * 3 := by
  induction l with
  | nil => rfl
  | cons p l ih => simp [ptcell] at ih ⊢; omega
theorem ptcells_get : ∀ (l : List Pt) (i : Nat) (p : Pt), l[i]? = some p → (l.flatMap ptcell)[i * 3]? = some (.int .i64 (p.s : Int)) ∧ (l.flatMap ptcell)[i * 3 + 1]? = some (.int .i64 (p.x : Int)) ∧ (l.flatMap ptcell)[i * 3 + 2]? = some (.int .i64 (p.k : Int))
  | [], i, p, h => by simp at h
  | q :: l, 0, p, h => by
    obtain rfl : q = p := by simpa using h
    exact ⟨rfl, rfl, rfl⟩
  | q :: l, i + 1, p, h => by
    have ih := ptcells_get l i p (by simpa using h)
    rw [show (i + 1) * 3 = i * 3 + 3 by omega]
    exact ih
theorem ptcell_one (l : List Pt) : ∀ y ∈ l.flatMap ptcell, y.oneCell' = true := by
  intro y hy
  obtain ⟨q, _, hq⟩ := List.mem_flatMap.1 hy
  simp only [ptcell, List.mem_cons, List.not_mem_nil, or_false] at hq
  rcases hq with rfl | rfl | rfl <;> rfl
def RunsPost (l : List Int) (w : World) (ev : Ending) (w' : World) : Prop :=
  ∃ A c, ev = .returned (.slice A (runsP l).length c) ∧ w'.ownsRow w.heap.size 87 3 (.slice A (runsP l).length c) (runsP l).length ((runsP l).flatMap ptcell) ∧ Below w.heap.size w w'
/-- The outer loop: what is done, and what is left of the row. -/
def RnI (l : List Int) (b off n cap : Nat) (w : World) (f : Nat) (sv ov : Value) (wr : World) : Prop :=
  ∃ (p : Nat) (out : List Pt) (o' c' : Nat), p ≤ n ∧ n ≤ p + f ∧ sv = .slice (some ⟨b, o', none⟩) (n - p) c' ∧ n - p ≤ c' ∧ (p < n → o' = off + p) ∧ wr.ownsRow w.heap.size 87 3 ov out.length (out.flatMap ptcell) ∧ out ++ runsGo f (l.drop p) = runsP l ∧ out.length ≤ p ∧ Below w.heap.size w wr
/-- The inner one: how many are alike. -/
def RnJ (z : Int) (l : List Int) (w : World) (k0 : Nat) (kv : Value) (wr : World) : Prop :=
  ∃ j, kv = .int .i64 ((j + 1 : Nat) : Int) ∧ j + k0 = l.length ∧ runOf z l = j + runOf z (l.drop j) ∧ Below w.heap.size w wr
theorem runsGo_step (f : Nat) (z : Int) (l : List Int) : runsGo (f + 1) (z :: l) =
    if z = 0 ∧ 11 ≤ runOf z l + 1 then ⟨18, min (runOf z l + 1) 138 - 11, 7⟩ :: runsGo f ((z :: l).drop (min (runOf z l + 1) 138))
    else if z = 0 ∧ 3 ≤ runOf z l + 1 then ⟨17, runOf z l + 1 - 3, 3⟩ :: runsGo f ((z :: l).drop (runOf z l + 1))
    else if 0 < z ∧ 4 ≤ runOf z l + 1 then ⟨z.toNat, 0, 0⟩ :: ⟨16, min (runOf z l + 1) 7 - 4, 2⟩ :: runsGo f ((z :: l).drop (min (runOf z l + 1) 7))
    else ⟨z.toNat, 0, 0⟩ :: runsGo f l := by rw [runsGo]
theorem rn_next {l : List Int} {b off n cap p m f : Nat} {w w4 : World} {z : Int} {out qs : List Pt} {v4 sv : Value} {ys : List Value} {k : Nat} (hln : l.length = n) (hp : p ≤ n) (hf : n ≤ p + (f + 1)) (hm : 1 ≤ m) (hmn : m ≤ n - p) (hd : l.drop p = z :: l.drop (p + 1)) (hrest : out ++ runsGo (f + 1) (l.drop p) = runsP l)
    (hgo : runsGo (f + 1) (z :: l.drop (p + 1)) = qs ++ runsGo f ((z :: l.drop (p + 1)).drop m)) (hk : qs.length = k) (hol : out.length ≤ p) (hkm : qs.length ≤ m) (ho4 : w4.ownsRow w.heap.size 87 3 v4 (out.length + k) (out.flatMap ptcell ++ ys)) (hys : ys = qs.flatMap ptcell) (hb : Below w.heap.size w w4)
    (hsv : ∃ o' c', sv = .slice (some ⟨b, o', none⟩) (n - p - m) c' ∧ n - p - m ≤ c' ∧ (p + m < n → o' = off + p + m)) : RnI l b off n cap w f sv v4 w4 := by
  obtain ⟨o', c', e, h1, h2⟩ := hsv
  refine ⟨p + m, out ++ qs, o', c', by omega, by omega, ?_, by omega, fun h => by rw [h2 h, Nat.add_assoc], ?_, ?_, ?_, hb⟩
  · rw [e, Nat.sub_sub]
  · rw [List.length_append, List.flatMap_append, hk, ← hys]; exact ho4
  · rw [← hrest, hd, hgo, ← hd, List.drop_drop, List.append_assoc]
  · rw [List.length_append]; omega
set_option maxHeartbeats 1600000 in
set_option maxRecDepth 100000 in
theorem runs_any (l : List Int) (b off n cap : Nat) (w : World) (h : RdI .i64 w (some ⟨b, off, none⟩) n l) (hn : n ≤ 1000) (hc : n ≤ cap) (hl : ∀ z ∈ l, 0 ≤ z ∧ z < 16) :
    Calls Tryz.prog 34 #[.slice (some ⟨b, off, none⟩) n cap] w (RunsPost l w) := by
  have HR := Lib.hid h
  have HL := Lib.hid hl
  have hln := h.1
  clear h hl
  go_enter Tryz.func34, Tryz.ntmps34
  go_wp2
  go_loopg [0, 3] n (RnI l b off n cap w)
  case atStart => exact ⟨0, [], off, cap, by omega, by omega, by simp, by omega, fun _ => rfl, World.ownsRow_nil _ _ _ _, by simp [runsP, hln], by simp, Below.refl _ _⟩
  case round =>
    obtain ⟨p, out, o', cp, hp, hf, rfl, hcp, hoo, ho, hrest, hol, hb⟩ := hrel
    have HO := Lib.hid ho
    have HRest := Lib.hid hrest
    have HB := Lib.hid hb
    clear ho hrest hb
    by_cases hlt : p < n
    · obtain rfl := hoo hlt
      obtain ⟨f, rfl⟩ : ∃ f, gk = f + 1 := ⟨gk - 1, by omega⟩
      have h1 : (0 : Int) < ((n - p : Nat) : Int) := by omega
      obtain ⟨z, hz⟩ : ∃ z, z = l.getD p 0 := ⟨_, rfl⟩
      have hdrop : l.drop p = z :: l.drop (p + 1) := by
        rw [List.drop_eq_getElem_cons (by omega), hz]
        simp [show p < l.length by omega]
      have hz16 := HL.out z (by rw [hz]; simp [show p < l.length by omega])
      have HD := Lib.hid hdrop
      have HZ := Lib.hid hz
      have hLl : (l.drop (p + 1)).length = n - p - 1 := by rw [List.length_drop]; omega
      have HRB := Lib.hid (HR.out.below HB.out)
      have HRun := Lib.hid (runOf_is z (l.drop (p + 1))).1
      rw [hLl] at HRun
      have HE0 := Lib.hid (rfl : wr = wr)
      clear hdrop hz
      go_wp2
      go_loopg [4] (n - p - 1) (RnJ z (l.drop (p + 1)) wr)
      case atStart => exact ⟨0, by simp, by rw [hLl]; omega, by simp, Below.refl _ _⟩
      case round =>
        obtain ⟨j, rfl, hj, hrun, hbj⟩ := hrel
        rw [hLl] at hj
        have HJ := Lib.hid hrun
        have HBJ := Lib.hid hbj
        have HRj := HRB.out.below hbj
        clear hrun hbj
        have HBW := Lib.hid (HB.out.trans (HBJ.out.mono HB.out.size))
        by_cases hin : j + 1 < n - p
        · have hinI : (j : Int) + 1 < ((n - p : Nat) : Int) := by omega
          have hinD : decide ((j : Int) + 1 < ((n - p : Nat) : Int)) = true := by simpa using hinI
          obtain ⟨_, _, e, hblt, hcell⟩ := HRj.2 (by omega)
          injection e with e
          injection e with e1 e2
          subst e1 e2
          have q0 := hcell p hlt
          have q1 := hcell (p + (j + 1)) (by omega)
          rw [← HZ.out] at q0
          rw [← Nat.add_assoc] at q1
          obtain ⟨y, hy⟩ : ∃ y, y = l.getD (p + (j + 1)) 0 := ⟨_, rfl⟩
          rw [← hy] at q1
          have HY := Lib.hid hy
          clear hy hcell
          have HD2 := Lib.hid (show (l.drop (p + 1)).drop j = y :: (l.drop (p + 1)).drop (j + 1) by
            rw [List.drop_drop, List.drop_drop, HY.out]
            simp only [show p + 1 + j = p + (j + 1) by omega, List.getD_eq_getElem?_getD]
            rw [List.drop_eq_getElem_cons (show p + (j + 1) < l.length by omega), List.getElem?_eq_getElem (show p + (j + 1) < l.length by omega), show p + (j + 1) + 1 = p + 1 + (j + 1) by omega]
            rfl)
          by_cases heq : y = z
          · have heqI : (y == z) = true := by simpa using heq
            go_wp2
            refine wp_region_qs (fun _ w' => w'.cell? ⟨b, off + p, none⟩ = some (.int .i64 z) ∧ w'.cell? ⟨b, off + p + (j + 1), none⟩ = some (.int .i64 y)) [(0, some 0), (1, some 0), (2, some 0), (3, some 0), (4, some 0), (5, some 0), (6, some 0), (7, some 0), (8, some 0), (9, some 0), (10, some 0), (11, some 0), (12, some 0), (13, some 0)] (by kernel_rfl) (by kernel_rfl) (by kernel_rfl) (by kernel_rfl) (by kernel_rfl) (fun _ _ _ _ _ h => h) ⟨q0, q1⟩ ?_
            simp only [List.map_cons, List.map_nil, List.getD_cons_succ, List.getD_cons_zero]
            (repeat (first | (refine qs_now (v := ?_) (by rfl) ?_ ?_; rotate_left 1; (· (intro w' hS; go_simp; (try (simp only [↓IntWalk.iteOmega]; go_simp)); (try simp (disch := omega) only [IntWalk.i64_in]); try with_reducible rfl)); simp only [Act.put, List.setIfInBounds_toArray, List.set_cons_zero, List.set_cons_succ]) | (refine qs_run (v := ?_) (by rfl) ?_ ?_; rotate_left 1; (· (intro j w' hS; go_simp; (try (simp only [↓IntWalk.iteOmega]; go_simp)); (try simp (disch := omega) only [IntWalk.i64_in]); try with_reducible rfl)); simp only [Act.put, List.setIfInBounds_toArray, List.set_cons_zero, List.set_cons_succ]) | (refine qs_mid (v := ?_) (by rfl) ?_ ?_; rotate_left 1; (· (intro j w' hj1 hj2 hS; go_simp; (try (simp only [↓IntWalk.iteOmega]; go_simp)); (try simp (disch := omega) only [IntWalk.i64_in]); try with_reducible rfl)); simp only [Act.put, List.setIfInBounds_toArray, List.set_cons_zero, List.set_cons_succ]) | (refine qs_skip (by rfl) ?_; simp only [Act.put, List.setIfInBounds_toArray, List.set_cons_zero, List.set_cons_succ])))
            refine qs_nil ?_
            go_wp2
            go_roundg (gk - 1)
            case measure => omega
            case rel =>
              refine ⟨j + 1, by go_num, by rw [hLl]; omega, ?_, HBJ.out.drew⟩
              rw [HJ.out, HD2.out, runOf, if_pos heq]
              omega
          · have heqI : (y == z) = false := by simpa using heq
            have HM := Lib.hid (show j = runOf z (l.drop (p + 1)) by rw [HJ.out, HD2.out, runOf, if_neg heq]; rfl)
            clear HD2
            go_wp2
            refine wp_region_qs (fun _ w' => w'.cell? ⟨b, off + p, none⟩ = some (.int .i64 z) ∧ w'.cell? ⟨b, off + p + (j + 1), none⟩ = some (.int .i64 y)) [(0, some 0), (1, some 0), (2, some 0), (3, some 0), (4, some 0), (5, some 0), (6, some 0), (7, some 0), (8, some 0), (9, some 0), (10, some 0), (11, some 0), (12, some 0), (13, some 0)] (by kernel_rfl) (by kernel_rfl) (by kernel_rfl) (by kernel_rfl) (by kernel_rfl) (fun _ _ _ _ _ h => h) ⟨q0, q1⟩ ?_
            simp only [List.map_cons, List.map_nil, List.getD_cons_succ, List.getD_cons_zero]
            (repeat (first | (refine qs_now (v := ?_) (by rfl) ?_ ?_; rotate_left 1; (· (intro w' hS; go_simp; (try (simp only [↓IntWalk.iteOmega]; go_simp)); (try simp (disch := omega) only [IntWalk.i64_in]); try with_reducible rfl)); simp only [Act.put, List.setIfInBounds_toArray, List.set_cons_zero, List.set_cons_succ]) | (refine qs_run (v := ?_) (by rfl) ?_ ?_; rotate_left 1; (· (intro j w' hS; go_simp; (try (simp only [↓IntWalk.iteOmega]; go_simp)); (try simp (disch := omega) only [IntWalk.i64_in]); try with_reducible rfl)); simp only [Act.put, List.setIfInBounds_toArray, List.set_cons_zero, List.set_cons_succ]) | (refine qs_mid (v := ?_) (by rfl) ?_ ?_; rotate_left 1; (· (intro j w' hj1 hj2 hS; go_simp; (try (simp only [↓IntWalk.iteOmega]; go_simp)); (try simp (disch := omega) only [IntWalk.i64_in]); try with_reducible rfl)); simp only [Act.put, List.setIfInBounds_toArray, List.set_cons_zero, List.set_cons_succ]) | (refine qs_skip (by rfl) ?_; simp only [Act.put, List.setIfInBounds_toArray, List.set_cons_zero, List.set_cons_succ])))
            refine qs_nil ?_
            clear q1
            have HBX := Lib.hid (HBW.out.drew)
            have HOX := Lib.hid (own_below HO.out HBJ.out.drew)
            have q0x : wr.drew.cell? ⟨b, off + p, none⟩ = some (.int .i64 z) := q0
            clear q0 HJ HBJ HRj HBW
            obtain ⟨wx, hwx⟩ : ∃ wx, wx = wr.drew := ⟨_, rfl⟩
            rw [← hwx] at HBX HOX q0x ⊢
            clear hwx
            have hjn : j + 1 ≤ n - p := by omega
            have hz0 := hz16.1
            have HZ16 := hz16
            by_cases hzz : z = 0
            · have q1x := q0x
              rw [hzz] at q1x
              clear q0x hz0 hz16
              by_cases c1 : 138 < j + 1
              · have c1I : (138 : Int) < (j : Int) + 1 := by omega
                have c1D : decide ((138 : Int) < (j : Int) + 1) = true := by simpa using c1I
                have c2I : (11 : Int) ≤ (j : Int) + 1 := by omega
                go_wp2_with (refine app_src rfl (.tmp 42) (.tmp 46) 91 rfl w.heap.size 87 _ 3 24 Tryz.underlying91 infoPt3 rfl (by omega) _ out.length _ rfl (HOX.out.alloc _) _ 1 _ rfl (Src.of_blk (Blk.made _ _ _) rfl) (by simp [Value.oneCell']) (by omega) (by omega) (by have := HBX.out.size; simp; omega) ?_; intro v4 w4 ho4 hg4 hor4)
                all_goals
                  have L4 := (HBX.out.alloc HBX.out.size _).grown hg4 (by have := HBX.out.size; simp; omega) (fun k hk => (HOX.out.lt k hk).1)
                  go_roundg f
                  case measure => omega
                  case rel =>
                    have hgo : runsGo (f + 1) (z :: l.drop (p + 1)) = [⟨18, 127, 7⟩] ++ runsGo f ((z :: l.drop (p + 1)).drop (138)) := by
                      rw [runsGo_step, ← HM.out]
                      rw [if_pos ⟨hzz, by omega⟩, Nat.min_eq_right (by omega)]
                      rfl
                    exact rn_next hln hp hf (by omega) (by omega) HD.out HRest.out hgo rfl hol (by simp <;> omega) ho4 (by simp [ptcell] <;> omega) L4 ⟨_, _, rfl, by omega, by omega⟩
              by_cases c2 : 11 ≤ j + 1
              · have c1I : ¬ (138 : Int) < (j : Int) + 1 := by omega
                have c1D : decide ((138 : Int) < (j : Int) + 1) = false := by simpa using c1I
                have c2I : (11 : Int) ≤ (j : Int) + 1 := by omega
                go_wp2_with (refine app_src rfl (.tmp 42) (.tmp 46) 91 rfl w.heap.size 87 _ 3 24 Tryz.underlying91 infoPt3 rfl (by omega) _ out.length _ rfl (HOX.out.alloc _) _ 1 _ rfl (Src.of_blk (Blk.made _ _ _) rfl) (by simp [Value.oneCell']) (by omega) (by omega) (by have := HBX.out.size; simp; omega) ?_; intro v4 w4 ho4 hg4 hor4)
                all_goals
                  have L4 := (HBX.out.alloc HBX.out.size _).grown hg4 (by have := HBX.out.size; simp; omega) (fun k hk => (HOX.out.lt k hk).1)
                  go_roundg f
                  case measure => omega
                  case rel =>
                    have hgo : runsGo (f + 1) (z :: l.drop (p + 1)) = [⟨18, j + 1 - 11, 7⟩] ++ runsGo f ((z :: l.drop (p + 1)).drop (j + 1)) := by
                      rw [runsGo_step, ← HM.out]
                      rw [if_pos ⟨hzz, by omega⟩, Nat.min_eq_left (by omega)]
                      rfl
                    exact rn_next hln hp hf (by omega) (by omega) HD.out HRest.out hgo rfl hol (by simp <;> omega) ho4 (by simp [ptcell] <;> omega) L4 ⟨_, _, rfl, by omega, by omega⟩
              by_cases c3 : 3 ≤ j + 1
              · have c2I : ¬ (11 : Int) ≤ (j : Int) + 1 := by omega
                have c3I : (3 : Int) ≤ (j : Int) + 1 := by omega
                go_wp2_with (refine app_src rfl (.tmp 57) (.tmp 61) 91 rfl w.heap.size 87 _ 3 24 Tryz.underlying91 infoPt3 rfl (by omega) _ out.length _ rfl (HOX.out.alloc _) _ 1 _ rfl (Src.of_blk (Blk.made _ _ _) rfl) (by simp [Value.oneCell']) (by omega) (by omega) (by have := HBX.out.size; simp; omega) ?_; intro v4 w4 ho4 hg4 hor4)
                all_goals
                  have L4 := (HBX.out.alloc HBX.out.size _).grown hg4 (by have := HBX.out.size; simp; omega) (fun k hk => (HOX.out.lt k hk).1)
                  go_roundg f
                  case measure => omega
                  case rel =>
                    have hgo : runsGo (f + 1) (z :: l.drop (p + 1)) = [⟨17, j + 1 - 3, 3⟩] ++ runsGo f ((z :: l.drop (p + 1)).drop (j + 1)) := by
                      rw [runsGo_step, ← HM.out]
                      rw [if_neg (by omega), if_pos ⟨hzz, by omega⟩]
                      rfl
                    exact rn_next hln hp hf (by omega) (by omega) HD.out HRest.out hgo rfl hol (by simp <;> omega) ho4 (by simp [ptcell] <;> omega) L4 ⟨_, _, rfl, by omega, by omega⟩
              · have c2I : ¬ (11 : Int) ≤ (j : Int) + 1 := by omega
                have c3I : ¬ (3 : Int) ≤ (j : Int) + 1 := by omega
                go_wp2_with (refine app_src rfl (.tmp 24) (.tmp 29) 91 rfl w.heap.size 87 _ 3 24 Tryz.underlying91 infoPt3 rfl (by omega) _ out.length _ rfl (HOX.out.alloc _) _ 1 _ rfl (Src.of_blk (Blk.made _ _ _) rfl) (by simp [Value.oneCell']) (by omega) (by omega) (by have := HBX.out.size; simp; omega) ?_; intro v4 w4 ho4 hg4 hor4)
                all_goals
                  have L4 := (HBX.out.alloc HBX.out.size _).grown hg4 (by have := HBX.out.size; simp; omega) (fun k hk => (HOX.out.lt k hk).1)
                  go_roundg f
                  case measure => omega
                  case rel =>
                    have hgo : runsGo (f + 1) (z :: l.drop (p + 1)) = [⟨z.toNat, 0, 0⟩] ++ runsGo f ((z :: l.drop (p + 1)).drop (1)) := by
                      rw [runsGo_step, ← HM.out]
                      rw [if_neg (by omega), if_neg (by omega), if_neg (by omega)]
                      rfl
                    exact rn_next hln hp hf (by omega) (by omega) HD.out HRest.out hgo rfl hol (by simp <;> omega) ho4 (by simp [ptcell] <;> omega) L4 ⟨_, _, rfl, by omega, by omega⟩
            · have hzp : 0 < z := by omega
              have hzD : (z == 0) = false := by simpa using hzz
              clear hz0 hz16
              by_cases c1 : 7 < j + 1
              · have c1I : (7 : Int) < (j : Int) + 1 := by omega
                have c1D : decide ((7 : Int) < (j : Int) + 1) = true := by simpa using c1I
                have c2I : (4 : Int) ≤ (j : Int) + 1 := by omega
                go_wp2_with (refine app_src rfl (.tmp 74) (.tmp 82) 91 rfl w.heap.size 87 _ 3 24 Tryz.underlying91 infoPt3 rfl (by omega) _ out.length _ rfl (HOX.out.alloc _) _ 2 _ rfl (Src.of_blk (Blk.made _ _ _) rfl) (by simp [Value.oneCell']) (by omega) (by omega) (by have := HBX.out.size; simp; omega) ?_; intro v4 w4 ho4 hg4 hor4)
                all_goals
                  have L4 := (HBX.out.alloc HBX.out.size _).grown hg4 (by have := HBX.out.size; simp; omega) (fun k hk => (HOX.out.lt k hk).1)
                  go_roundg f
                  case measure => omega
                  case rel =>
                    have hgo : runsGo (f + 1) (z :: l.drop (p + 1)) = [⟨z.toNat, 0, 0⟩, ⟨16, 3, 2⟩] ++ runsGo f ((z :: l.drop (p + 1)).drop (7)) := by
                      rw [runsGo_step, ← HM.out]
                      rw [if_neg (by omega), if_neg (by omega), if_pos ⟨hzp, by omega⟩, Nat.min_eq_right (by omega)]
                      rfl
                    exact rn_next hln hp hf (by omega) (by omega) HD.out HRest.out hgo rfl hol (by simp <;> omega) ho4 (by simp [ptcell] <;> omega) L4 ⟨_, _, rfl, by omega, by omega⟩
              by_cases c2 : 4 ≤ j + 1
              · have c1I : ¬ (7 : Int) < (j : Int) + 1 := by omega
                have c1D : decide ((7 : Int) < (j : Int) + 1) = false := by simpa using c1I
                have c2I : (4 : Int) ≤ (j : Int) + 1 := by omega
                go_wp2_with (refine app_src rfl (.tmp 74) (.tmp 82) 91 rfl w.heap.size 87 _ 3 24 Tryz.underlying91 infoPt3 rfl (by omega) _ out.length _ rfl (HOX.out.alloc _) _ 2 _ rfl (Src.of_blk (Blk.made _ _ _) rfl) (by simp [Value.oneCell']) (by omega) (by omega) (by have := HBX.out.size; simp; omega) ?_; intro v4 w4 ho4 hg4 hor4)
                all_goals
                  have L4 := (HBX.out.alloc HBX.out.size _).grown hg4 (by have := HBX.out.size; simp; omega) (fun k hk => (HOX.out.lt k hk).1)
                  go_roundg f
                  case measure => omega
                  case rel =>
                    have hgo : runsGo (f + 1) (z :: l.drop (p + 1)) = [⟨z.toNat, 0, 0⟩, ⟨16, j + 1 - 4, 2⟩] ++ runsGo f ((z :: l.drop (p + 1)).drop (j + 1)) := by
                      rw [runsGo_step, ← HM.out]
                      rw [if_neg (by omega), if_neg (by omega), if_pos ⟨hzp, by omega⟩, Nat.min_eq_left (by omega)]
                      rfl
                    exact rn_next hln hp hf (by omega) (by omega) HD.out HRest.out hgo rfl hol (by simp <;> omega) ho4 (by simp [ptcell] <;> omega) L4 ⟨_, _, rfl, by omega, by omega⟩
              · have c2I : ¬ (4 : Int) ≤ (j : Int) + 1 := by omega
                go_wp2_with (refine app_src rfl (.tmp 24) (.tmp 29) 91 rfl w.heap.size 87 _ 3 24 Tryz.underlying91 infoPt3 rfl (by omega) _ out.length _ rfl (HOX.out.alloc _) _ 1 _ rfl (Src.of_blk (Blk.made _ _ _) rfl) (by simp [Value.oneCell']) (by omega) (by omega) (by have := HBX.out.size; simp; omega) ?_; intro v4 w4 ho4 hg4 hor4)
                all_goals
                  have L4 := (HBX.out.alloc HBX.out.size _).grown hg4 (by have := HBX.out.size; simp; omega) (fun k hk => (HOX.out.lt k hk).1)
                  go_roundg f
                  case measure => omega
                  case rel =>
                    have hgo : runsGo (f + 1) (z :: l.drop (p + 1)) = [⟨z.toNat, 0, 0⟩] ++ runsGo f ((z :: l.drop (p + 1)).drop (1)) := by
                      rw [runsGo_step, ← HM.out]
                      rw [if_neg (by omega), if_neg (by omega), if_neg (by omega)]
                      rfl
                    exact rn_next hln hp hf (by omega) (by omega) HD.out HRest.out hgo rfl hol (by simp <;> omega) ho4 (by simp [ptcell] <;> omega) L4 ⟨_, _, rfl, by omega, by omega⟩
        · have hinI : ¬ (j : Int) + 1 < ((n - p : Nat) : Int) := by omega
          have hinD : decide ((j : Int) + 1 < ((n - p : Nat) : Int)) = false := by simpa using hinI
          obtain ⟨_, _, e, hblt, hcell⟩ := HRj.2 (by omega)
          injection e with e
          injection e with e1 e2
          subst e1 e2
          have q0 := hcell p hlt
          rw [← HZ.out] at q0
          clear hcell
          have HM := Lib.hid (show j = runOf z (l.drop (p + 1)) by rw [HJ.out, List.drop_of_length_le (by rw [hLl]; omega)]; rfl)
          go_wp2
          refine wp_region_qs (fun _ w' => w'.cell? ⟨b, off + p, none⟩ = some (.int .i64 z)) [(0, some 0), (1, some 0), (2, some 0), (3, some 0), (4, some 0), (5, some 0), (6, some 0), (7, some 0), (8, some 0), (9, some 0), (10, some 0), (11, some 0), (12, some 0), (13, some 0)] (by kernel_rfl) (by kernel_rfl) (by kernel_rfl) (by kernel_rfl) (by kernel_rfl) (fun _ _ _ _ _ h => h) q0 ?_
          simp only [List.map_cons, List.map_nil, List.getD_cons_succ, List.getD_cons_zero]
          (repeat (first | (refine qs_now (v := ?_) (by rfl) ?_ ?_; rotate_left 1; (· (intro w' hS; go_simp; (try (simp only [↓IntWalk.iteOmega]; go_simp)); (try simp (disch := omega) only [IntWalk.i64_in]); try with_reducible rfl)); simp only [Act.put, List.setIfInBounds_toArray, List.set_cons_zero, List.set_cons_succ]) | (refine qs_run (v := ?_) (by rfl) ?_ ?_; rotate_left 1; (· (intro j w' hS; go_simp; (try (simp only [↓IntWalk.iteOmega]; go_simp)); (try simp (disch := omega) only [IntWalk.i64_in]); try with_reducible rfl)); simp only [Act.put, List.setIfInBounds_toArray, List.set_cons_zero, List.set_cons_succ]) | (refine qs_mid (v := ?_) (by rfl) ?_ ?_; rotate_left 1; (· (intro j w' hj1 hj2 hS; go_simp; (try (simp only [↓IntWalk.iteOmega]; go_simp)); (try simp (disch := omega) only [IntWalk.i64_in]); try with_reducible rfl)); simp only [Act.put, List.setIfInBounds_toArray, List.set_cons_zero, List.set_cons_succ]) | (refine qs_skip (by rfl) ?_; simp only [Act.put, List.setIfInBounds_toArray, List.set_cons_zero, List.set_cons_succ])))
          refine qs_nil ?_
          have HBX := Lib.hid (HBW.out.drew)
          have HOX := Lib.hid (own_below HO.out HBJ.out.drew)
          have q0x : wr.drew.cell? ⟨b, off + p, none⟩ = some (.int .i64 z) := q0
          clear q0 HJ HBJ HRj HBW
          obtain ⟨wx, hwx⟩ : ∃ wx, wx = wr.drew := ⟨_, rfl⟩
          rw [← hwx] at HBX HOX q0x ⊢
          clear hwx
          have hjn : j + 1 ≤ n - p := by omega
          have hz0 := hz16.1
          have HZ16 := hz16
          by_cases hzz : z = 0
          · have q1x := q0x
            rw [hzz] at q1x
            clear q0x hz0 hz16
            by_cases c1 : 138 < j + 1
            · have c1I : (138 : Int) < (j : Int) + 1 := by omega
              have c1D : decide ((138 : Int) < (j : Int) + 1) = true := by simpa using c1I
              have c2I : (11 : Int) ≤ (j : Int) + 1 := by omega
              go_wp2_with (refine app_src rfl (.tmp 42) (.tmp 46) 91 rfl w.heap.size 87 _ 3 24 Tryz.underlying91 infoPt3 rfl (by omega) _ out.length _ rfl (HOX.out.alloc _) _ 1 _ rfl (Src.of_blk (Blk.made _ _ _) rfl) (by simp [Value.oneCell']) (by omega) (by omega) (by have := HBX.out.size; simp; omega) ?_; intro v4 w4 ho4 hg4 hor4)
              all_goals
                have L4 := (HBX.out.alloc HBX.out.size _).grown hg4 (by have := HBX.out.size; simp; omega) (fun k hk => (HOX.out.lt k hk).1)
                go_roundg f
                case measure => omega
                case rel =>
                  have hgo : runsGo (f + 1) (z :: l.drop (p + 1)) = [⟨18, 127, 7⟩] ++ runsGo f ((z :: l.drop (p + 1)).drop (138)) := by
                    rw [runsGo_step, ← HM.out]
                    rw [if_pos ⟨hzz, by omega⟩, Nat.min_eq_right (by omega)]
                    rfl
                  exact rn_next hln hp hf (by omega) (by omega) HD.out HRest.out hgo rfl hol (by simp <;> omega) ho4 (by simp [ptcell] <;> omega) L4 ⟨_, _, rfl, by omega, by omega⟩
            by_cases c2 : 11 ≤ j + 1
            · have c1I : ¬ (138 : Int) < (j : Int) + 1 := by omega
              have c1D : decide ((138 : Int) < (j : Int) + 1) = false := by simpa using c1I
              have c2I : (11 : Int) ≤ (j : Int) + 1 := by omega
              go_wp2_with (refine app_src rfl (.tmp 42) (.tmp 46) 91 rfl w.heap.size 87 _ 3 24 Tryz.underlying91 infoPt3 rfl (by omega) _ out.length _ rfl (HOX.out.alloc _) _ 1 _ rfl (Src.of_blk (Blk.made _ _ _) rfl) (by simp [Value.oneCell']) (by omega) (by omega) (by have := HBX.out.size; simp; omega) ?_; intro v4 w4 ho4 hg4 hor4)
              all_goals
                have L4 := (HBX.out.alloc HBX.out.size _).grown hg4 (by have := HBX.out.size; simp; omega) (fun k hk => (HOX.out.lt k hk).1)
                go_roundg f
                case measure => omega
                case rel =>
                  have hgo : runsGo (f + 1) (z :: l.drop (p + 1)) = [⟨18, j + 1 - 11, 7⟩] ++ runsGo f ((z :: l.drop (p + 1)).drop (j + 1)) := by
                    rw [runsGo_step, ← HM.out]
                    rw [if_pos ⟨hzz, by omega⟩, Nat.min_eq_left (by omega)]
                    rfl
                  exact rn_next hln hp hf (by omega) (by omega) HD.out HRest.out hgo rfl hol (by simp <;> omega) ho4 (by simp [ptcell] <;> omega) L4 ⟨_, _, rfl, by omega, by omega⟩
            by_cases c3 : 3 ≤ j + 1
            · have c2I : ¬ (11 : Int) ≤ (j : Int) + 1 := by omega
              have c3I : (3 : Int) ≤ (j : Int) + 1 := by omega
              go_wp2_with (refine app_src rfl (.tmp 57) (.tmp 61) 91 rfl w.heap.size 87 _ 3 24 Tryz.underlying91 infoPt3 rfl (by omega) _ out.length _ rfl (HOX.out.alloc _) _ 1 _ rfl (Src.of_blk (Blk.made _ _ _) rfl) (by simp [Value.oneCell']) (by omega) (by omega) (by have := HBX.out.size; simp; omega) ?_; intro v4 w4 ho4 hg4 hor4)
              all_goals
                have L4 := (HBX.out.alloc HBX.out.size _).grown hg4 (by have := HBX.out.size; simp; omega) (fun k hk => (HOX.out.lt k hk).1)
                go_roundg f
                case measure => omega
                case rel =>
                  have hgo : runsGo (f + 1) (z :: l.drop (p + 1)) = [⟨17, j + 1 - 3, 3⟩] ++ runsGo f ((z :: l.drop (p + 1)).drop (j + 1)) := by
                    rw [runsGo_step, ← HM.out]
                    rw [if_neg (by omega), if_pos ⟨hzz, by omega⟩]
                    rfl
                  exact rn_next hln hp hf (by omega) (by omega) HD.out HRest.out hgo rfl hol (by simp <;> omega) ho4 (by simp [ptcell] <;> omega) L4 ⟨_, _, rfl, by omega, by omega⟩
            · have c2I : ¬ (11 : Int) ≤ (j : Int) + 1 := by omega
              have c3I : ¬ (3 : Int) ≤ (j : Int) + 1 := by omega
              go_wp2_with (refine app_src rfl (.tmp 24) (.tmp 29) 91 rfl w.heap.size 87 _ 3 24 Tryz.underlying91 infoPt3 rfl (by omega) _ out.length _ rfl (HOX.out.alloc _) _ 1 _ rfl (Src.of_blk (Blk.made _ _ _) rfl) (by simp [Value.oneCell']) (by omega) (by omega) (by have := HBX.out.size; simp; omega) ?_; intro v4 w4 ho4 hg4 hor4)
              all_goals
                have L4 := (HBX.out.alloc HBX.out.size _).grown hg4 (by have := HBX.out.size; simp; omega) (fun k hk => (HOX.out.lt k hk).1)
                go_roundg f
                case measure => omega
                case rel =>
                  have hgo : runsGo (f + 1) (z :: l.drop (p + 1)) = [⟨z.toNat, 0, 0⟩] ++ runsGo f ((z :: l.drop (p + 1)).drop (1)) := by
                    rw [runsGo_step, ← HM.out]
                    rw [if_neg (by omega), if_neg (by omega), if_neg (by omega)]
                    rfl
                  exact rn_next hln hp hf (by omega) (by omega) HD.out HRest.out hgo rfl hol (by simp <;> omega) ho4 (by simp [ptcell] <;> omega) L4 ⟨_, _, rfl, by omega, by omega⟩
          · have hzp : 0 < z := by omega
            have hzD : (z == 0) = false := by simpa using hzz
            clear hz0 hz16
            by_cases c1 : 7 < j + 1
            · have c1I : (7 : Int) < (j : Int) + 1 := by omega
              have c1D : decide ((7 : Int) < (j : Int) + 1) = true := by simpa using c1I
              have c2I : (4 : Int) ≤ (j : Int) + 1 := by omega
              go_wp2_with (refine app_src rfl (.tmp 74) (.tmp 82) 91 rfl w.heap.size 87 _ 3 24 Tryz.underlying91 infoPt3 rfl (by omega) _ out.length _ rfl (HOX.out.alloc _) _ 2 _ rfl (Src.of_blk (Blk.made _ _ _) rfl) (by simp [Value.oneCell']) (by omega) (by omega) (by have := HBX.out.size; simp; omega) ?_; intro v4 w4 ho4 hg4 hor4)
              all_goals
                have L4 := (HBX.out.alloc HBX.out.size _).grown hg4 (by have := HBX.out.size; simp; omega) (fun k hk => (HOX.out.lt k hk).1)
                go_roundg f
                case measure => omega
                case rel =>
                  have hgo : runsGo (f + 1) (z :: l.drop (p + 1)) = [⟨z.toNat, 0, 0⟩, ⟨16, 3, 2⟩] ++ runsGo f ((z :: l.drop (p + 1)).drop (7)) := by
                    rw [runsGo_step, ← HM.out]
                    rw [if_neg (by omega), if_neg (by omega), if_pos ⟨hzp, by omega⟩, Nat.min_eq_right (by omega)]
                    rfl
                  exact rn_next hln hp hf (by omega) (by omega) HD.out HRest.out hgo rfl hol (by simp <;> omega) ho4 (by simp [ptcell] <;> omega) L4 ⟨_, _, rfl, by omega, by omega⟩
            by_cases c2 : 4 ≤ j + 1
            · have c1I : ¬ (7 : Int) < (j : Int) + 1 := by omega
              have c1D : decide ((7 : Int) < (j : Int) + 1) = false := by simpa using c1I
              have c2I : (4 : Int) ≤ (j : Int) + 1 := by omega
              go_wp2_with (refine app_src rfl (.tmp 74) (.tmp 82) 91 rfl w.heap.size 87 _ 3 24 Tryz.underlying91 infoPt3 rfl (by omega) _ out.length _ rfl (HOX.out.alloc _) _ 2 _ rfl (Src.of_blk (Blk.made _ _ _) rfl) (by simp [Value.oneCell']) (by omega) (by omega) (by have := HBX.out.size; simp; omega) ?_; intro v4 w4 ho4 hg4 hor4)
              all_goals
                have L4 := (HBX.out.alloc HBX.out.size _).grown hg4 (by have := HBX.out.size; simp; omega) (fun k hk => (HOX.out.lt k hk).1)
                go_roundg f
                case measure => omega
                case rel =>
                  have hgo : runsGo (f + 1) (z :: l.drop (p + 1)) = [⟨z.toNat, 0, 0⟩, ⟨16, j + 1 - 4, 2⟩] ++ runsGo f ((z :: l.drop (p + 1)).drop (j + 1)) := by
                    rw [runsGo_step, ← HM.out]
                    rw [if_neg (by omega), if_neg (by omega), if_pos ⟨hzp, by omega⟩, Nat.min_eq_left (by omega)]
                    rfl
                  exact rn_next hln hp hf (by omega) (by omega) HD.out HRest.out hgo rfl hol (by simp <;> omega) ho4 (by simp [ptcell] <;> omega) L4 ⟨_, _, rfl, by omega, by omega⟩
            · have c2I : ¬ (4 : Int) ≤ (j : Int) + 1 := by omega
              go_wp2_with (refine app_src rfl (.tmp 24) (.tmp 29) 91 rfl w.heap.size 87 _ 3 24 Tryz.underlying91 infoPt3 rfl (by omega) _ out.length _ rfl (HOX.out.alloc _) _ 1 _ rfl (Src.of_blk (Blk.made _ _ _) rfl) (by simp [Value.oneCell']) (by omega) (by omega) (by have := HBX.out.size; simp; omega) ?_; intro v4 w4 ho4 hg4 hor4)
              all_goals
                have L4 := (HBX.out.alloc HBX.out.size _).grown hg4 (by have := HBX.out.size; simp; omega) (fun k hk => (HOX.out.lt k hk).1)
                go_roundg f
                case measure => omega
                case rel =>
                  have hgo : runsGo (f + 1) (z :: l.drop (p + 1)) = [⟨z.toNat, 0, 0⟩] ++ runsGo f ((z :: l.drop (p + 1)).drop (1)) := by
                    rw [runsGo_step, ← HM.out]
                    rw [if_neg (by omega), if_neg (by omega), if_neg (by omega)]
                    rfl
                  exact rn_next hln hp hf (by omega) (by omega) HD.out HRest.out hgo rfl hol (by simp <;> omega) ho4 (by simp [ptcell] <;> omega) L4 ⟨_, _, rfl, by omega, by omega⟩
    · go_wp2
      obtain ⟨A, c, rfl, hcc⟩ := own_slice HO.out
      go_ret
      have e : out = runsP l := by
        rw [← HRest.out, List.drop_of_length_le (by omega)]
        cases gk <;> simp [runsGo]
      refine ⟨A, c, ?_, ?_, HB.out⟩
      · rw [← e]; rfl
      · rw [← e]; exact HO.out
end Go.Proofs.YthmcdohndckniaaGreatDoor

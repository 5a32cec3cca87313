/-
  lines.unhex, walked.
-/
import Derived.Test.YtfehgpjnlkgekaaGreatDoorLnNum
namespace Go.Proofs.YtfehgpjnlkgekaaGreatDoor
open Go.RowKit
set_option linter.unusedVariables false
set_option linter.unusedSimpArgs false

def hexV (c : UInt8) : Option Nat := if 48 ≤ c.toNat ∧ c.toNat ≤ 57 then some (c.toNat - 48) else if 97 ≤ c.toNat ∧ c.toNat ≤ 102 then some (c.toNat - 87) else none
def pairsL : List UInt8 → Option (List Int)
  | [] => some []
  | [_] => none
  | a :: b :: r => match hexV a, hexV b with
    | some x, some y => (pairsL r).map fun o => ((16 * x + y : Nat) : Int) :: o
    | _, _ => none
def noneW : List UInt8 := [110, 111, 110, 101]
def unhexL (l : List UInt8) : Option (List Int) := if l = noneW then some [] else if l = [] then none else pairsL l
theorem hexV_lt {c : UInt8} {x : Nat} (h : hexV c = some x) : x < 16 := by
  unfold hexV at h
  split at h
  · injection h with h; omega
  · split at h
    · injection h with h; omega
    · cases h
theorem idx_hex (c : UInt8) : Lib.indexByte digitsL c = match hexV c with
    | some x => (x : Int)
    | none => -1 := by
  have : ∀ n : Fin 256, Lib.indexByte digitsL (UInt8.ofNat n.val) = match hexV (UInt8.ofNat n.val) with
    | some x => (x : Int)
    | none => -1 := by decide +kernel
  have h := this ⟨c.toNat, c.toNat_lt⟩
  rwa [show UInt8.ofNat c.toNat = c from UInt8.ofNat_toNat] at h
theorem or16 : ∀ x y : Nat, x < 16 → y < 16 → bits .or .i64 ((x : Int) * 16) (y : Int) = ((16 * x + y : Nat) : Int) := by
  have : ∀ x y : Fin 16, bits .or .i64 ((x.val : Int) * 16) (y.val : Int) = ((16 * x.val + y.val : Nat) : Int) := by decide +kernel
  exact fun x y hx hy => this ⟨x, hx⟩ ⟨y, hy⟩
theorem ba_get (s : ByteArray) (i : Nat) (h : i < s.size) : s[i] = s.data.toList.getD i 0 := by
  have : i < s.data.toList.length := by rw [Array.length_toList]; exact h
  rw [List.getD_eq_getElem?_getD, List.getElem?_eq_getElem this]
  rfl
def hexI (c : UInt8) : Int := match hexV c with
  | some x => (x : Int)
  | none => -1
theorem idxb_any (c : UInt8) (w : World) : Calls Tryz.prog 82 #[.string ⟨#[48, 49, 50, 51, 52, 53, 54, 55, 56, 57, 97, 98, 99, 100, 101, 102]⟩, .int .u8 (c.toNat : Int)] w fun e w' => e = .returned (.int .i64 (hexI c)) ∧ w' = w := by
  refine (Tryz.strings_IndexByte _ _ w).mono ?_
  rintro e w' ⟨rfl, rfl⟩
  refine ⟨?_, rfl⟩
  rw [Int.toNat_natCast, show c.toNat.toUInt8 = c from UInt8.ofNat_toNat]
  exact congrArg (fun x => Ending.returned (.int .i64 x)) (idx_hex c)
def UnPost (l : List UInt8) (w : World) (e : Ending) (w' : World) : Prop :=
  Below w.heap.size w w' ∧ match unhexL l with
    | some o => ∃ A c, e = .returned (.tuple #[.slice A o.length c, .nilIface]) ∧ w'.ownsRow w.heap.size 5 1 (.slice A o.length c) o.length (o.map (Value.int .u8))
    | none => e = .returned (.tuple #[.slice none 0 0, wrongV])
def UnI (l : List UInt8) (n : Nat) (w : World) (k : Nat) (ov iv : Value) (wr : World) : Prop :=
  ∃ (j : Nat) (o : List Int), iv = .int .i64 ((j : Nat) : Int) ∧ j ≤ n ∧ j + k = n ∧ 2 * o.length = j ∧ wr.ownsRow w.heap.size 5 1 ov o.length (o.map (Value.int .u8)) ∧ Below w.heap.size w wr ∧ pairsL l = (pairsL (l.drop j)).map fun r => o ++ r
theorem drop2 {l : List UInt8} {j : Nat} (h : j + 1 < l.length) : l.drop j = l.getD j 0 :: l.getD (j + 1) 0 :: l.drop (j + 2) := by
  rw [List.drop_eq_getElem_cons (by omega), List.drop_eq_getElem_cons h, List.getD_eq_getElem?_getD, List.getD_eq_getElem?_getD, List.getElem?_eq_getElem (by omega), List.getElem?_eq_getElem h]
  rfl
set_option maxHeartbeats 1600000 in
theorem unhex_any (s : ByteArray) (w : World) (hs : s.size ≤ 100000000) :
    Calls Tryz.prog 41 #[.string s] w (UnPost s.data.toList w) := by
  have hsz : s.data.toList.length = s.size := by rw [Array.length_toList]; rfl
  have e0 : (s.toList == ([110, 111, 110, 101] : List UInt8)) = decide (s.data.toList = noneW) := by
    rw [ba_list]; exact beq_dec _ _
  by_cases hno : s.data.toList = noneW
  · rw [decide_eq_true hno] at e0
    unfold UnPost
    unfold unhexL
    rw [if_pos hno]
    simp only
    go_enter Tryz.func41, Tryz.ntmps41
    go_wp2
    go_ret2
    exact ⟨Below.refl _ _, none, 0, rfl, World.ownsRow_nil _ _ _ _⟩
  · rw [decide_eq_false hno] at e0
    go_enter Tryz.func41, Tryz.ntmps41
    go_wp2
    go_loopg [4, 5] s.size (UnI s.data.toList s.size w)
    case atStart =>
      refine ⟨0, [], rfl, by omega, by omega, rfl, World.ownsRow_nil _ _ _ _, Below.refl _ _, ?_⟩
      rw [List.drop_zero]
      cases pairsL s.data.toList <;> rfl
    case round =>
      obtain ⟨j, o, rfl, hi, hk, hol, ho, hb, hp⟩ := hrel
      have HO := Lib.hid ho
      have HB := Lib.hid hb
      have HP := Lib.hid hp
      have HL := Lib.hid hol
      clear ho hb hp hol
      by_cases hlt : j + 1 < s.size
      · have hltI : (j : Int) + 1 < (s.size : Int) := by omega
        have hltJ : (j : Int) < (s.size : Int) := by omega
        have h1 : j < s.data.size := by have : s.data.size = s.size := rfl; omega
        have h2 : j + 1 < s.data.size := hlt
        have g1 := ba_get s j (by omega)
        have g2 := ba_get s (j + 1) hlt
        have HD := Lib.hid (drop2 (l := s.data.toList) (j := j) (by omega))
        generalize s.data.toList.getD j 0 = ca at *
        generalize s.data.toList.getD (j + 1) 0 = cb at *
        go_wp2
        refine wp_region_qs (fun _ _ => True) [(0, some 2), (1, some 2), (2, some 1), (4, some 2), (5, some 2), (6, some 2), (7, some 1), (3, none), (8, none), (9, some 2), (10, some 2)] (by kernel_rfl) (by kernel_rfl) (by kernel_rfl) (by kernel_rfl) (by kernel_rfl) (fun _ _ _ _ _ h => h) trivial ?_
        simp only [List.map_cons, List.map_nil, List.getD_cons_succ, List.getD_cons_zero]
        (repeat (first | (refine qs_now (v := ?_) (by rfl) ?_ ?_; rotate_left 1; (· (intro w' hS; go_simp; (try (simp only [↓IntWalk.iteOmega]; go_simp)); (try simp (disch := omega) only [IntWalk.i64_in]); try with_reducible rfl)); simp only [Act.put, List.setIfInBounds_toArray, List.set_cons_zero, List.set_cons_succ]) | (refine qs_run (v := ?_) (by rfl) ?_ ?_; rotate_left 1; (· (intro j w' hS; go_simp; (try (simp only [↓IntWalk.iteOmega]; go_simp)); (try simp (disch := omega) only [IntWalk.i64_in]); try with_reducible rfl)); simp only [Act.put, List.setIfInBounds_toArray, List.set_cons_zero, List.set_cons_succ]) | (refine qs_mid (v := ?_) (by rfl) ?_ ?_; rotate_left 1; (· (intro j w' hj1 hj2 hS; go_simp; (try (simp only [↓IntWalk.iteOmega]; go_simp)); (try simp (disch := omega) only [IntWalk.i64_in]); try with_reducible rfl)); simp only [Act.put, List.setIfInBounds_toArray, List.set_cons_zero, List.set_cons_succ]) | (refine qs_skip (by rfl) ?_; simp only [Act.put, List.setIfInBounds_toArray, List.set_cons_zero, List.set_cons_succ])))
        refine qs_act ?_
        go_wp2_with fail
        refine (idxb_any ca _).mono ?_
        rintro ev w1 ⟨rfl, rfl⟩
        go_wp2
        refine ⟨trivial, ?_⟩
        refine qs_act ?_
        go_wp2_with fail
        refine (idxb_any cb _).mono ?_
        rintro ev w1 ⟨rfl, rfl⟩
        go_wp2
        refine ⟨trivial, ?_⟩
        (repeat (first | (refine qs_now (v := ?_) (by rfl) ?_ ?_; rotate_left 1; (· (intro w' hS; go_simp; (try (simp only [↓IntWalk.iteOmega]; go_simp)); (try simp (disch := omega) only [IntWalk.i64_in]); try with_reducible rfl)); simp only [Act.put, List.setIfInBounds_toArray, List.set_cons_zero, List.set_cons_succ]) | (refine qs_run (v := ?_) (by rfl) ?_ ?_; rotate_left 1; (· (intro j w' hS; go_simp; (try (simp only [↓IntWalk.iteOmega]; go_simp)); (try simp (disch := omega) only [IntWalk.i64_in]); try with_reducible rfl)); simp only [Act.put, List.setIfInBounds_toArray, List.set_cons_zero, List.set_cons_succ]) | (refine qs_mid (v := ?_) (by rfl) ?_ ?_; rotate_left 1; (· (intro j w' hj1 hj2 hS; go_simp; (try (simp only [↓IntWalk.iteOmega]; go_simp)); (try simp (disch := omega) only [IntWalk.i64_in]); try with_reducible rfl)); simp only [Act.put, List.setIfInBounds_toArray, List.set_cons_zero, List.set_cons_succ]) | (refine qs_skip (by rfl) ?_; simp only [Act.put, List.setIfInBounds_toArray, List.set_cons_zero, List.set_cons_succ])))
        refine qs_nil ?_
        have bad : (hexV ca = none ∨ hexV cb = none) → unhexL s.data.toList = none := fun h => by
          have hn : s.data.toList ≠ [] := fun h => by rw [h] at hsz; simp at hsz; omega
          unfold unhexL
          rw [if_neg hno, if_neg hn, HP.out, HD.out, pairsL]
          rcases h with h | h
          · rw [h]; rfl
          · rw [h]
            cases hexV ca <;> rfl
        have Bad := Lib.hid bad
        clear bad
        cases ha : hexV ca with
        | none =>
          have ea : hexI ca = -1 := by unfold hexI; rw [ha]
          have HU := Lib.hid (Bad.out (.inl ha))
          clear ha
          go_wp2
          go_ret2
          refine ⟨HB.out.drew, ?_⟩
          rw [HU.out]
          rfl
        | some x =>
          have ea : hexI ca = (x : Int) := by unfold hexI; rw [ha]
          cases hb : hexV cb with
          | none =>
            have eb : hexI cb = -1 := by unfold hexI; rw [hb]
            have HU := Lib.hid (Bad.out (.inr hb))
            clear ha hb
            go_wp2
            go_ret2
            refine ⟨HB.out.drew, ?_⟩
            rw [HU.out]
            rfl
          | some y =>
            have eb : hexI cb = (y : Int) := by unfold hexI; rw [hb]
            have hx := hexV_lt ha
            have hy := hexV_lt hb
            have HP2 := Lib.hid (show pairsL s.data.toList = (pairsL (s.data.toList.drop (j + 2))).map fun r => (o ++ [((16 * x + y : Nat) : Int)]) ++ r by
              rw [HP.out, HD.out, pairsL, ha, hb]
              simp only
              cases pairsL (s.data.toList.drop (j + 2)) <;> simp)
            have e16 := or16 x y hx hy
            clear ha hb Bad
            have hz : 16 * x + y < 256 := by omega
            generalize 16 * x + y = z at *
            have e18 : (z : Int) % 256 = z := by omega
            obtain ⟨wd, hwd⟩ : ∃ wd, wd = wr.drew := ⟨_, rfl⟩
            have Ld := Lib.hid (show Below wr.heap.size wr wd by rw [hwd]; exact (Below.refl _ _).drew)
            rw [← hwd]
            clear hwd
            have Od := Lib.hid (own_lo8 HO.out Ld.out)
            have Bd := Lib.hid (below_chain HB.out Ld.out)
            have hol2 : o.length ≤ 100000000 := by have := HL.out; omega
            go_wp2_with (at_builtin; refine heldW ?_)
            unfold HeldW
            refine app_src rfl (.tmp 34) (.tmp 40) 24 rfl w.heap.size 5 _ 1 1 Tryz.underlying24 infoByte rfl (by omega) _ o.length _ rfl (Od.out.alloc _) _ 1 [Value.int .u8 (z : Int)] rfl (src8 _ _ _) (by simp [Value.oneCell']) (by omega) (by omega) (by have := Bd.out.size; simp; omega) ?_
            intro v2 w2 ho2 hg2 hor2
            have O2 := Lib.hid ho2
            have G2 := Lib.hid hg2
            clear ho2 hg2 hor2
            go_wp2
            have L2 := Lib.hid ((Bd.out.alloc Bd.out.size _).grown G2.out (by have := Bd.out.size; simp; omega) (fun k hk => (Od.out.lt k hk).1))
            go_roundg (gk - 2)
            case measure => omega
            case rel =>
              refine ⟨j + 2, o ++ [(z : Int)], by go_num, by omega, by omega, by have := HL.out; simp; omega, ?_, L2.out, HP2.out⟩
              have h2 := O2.out
              rw [List.length_append, List.map_append]
              exact h2
      · have hltI : ¬ (j : Int) + 1 < (s.size : Int) := by omega
        by_cases hemp : s.size = 0
        · have he : s.toList.isEmpty = true := by
            rw [ba_list]
            have : s.data.toList = [] := List.eq_nil_of_length_eq_zero (by omega)
            rw [this]; rfl
          go_wp2
          go_ret2
          refine ⟨HB.out, ?_⟩
          have hn : s.data.toList = [] := List.eq_nil_of_length_eq_zero (by omega)
          unfold unhexL
          rw [if_neg hno, if_pos hn]
          rfl
        · have he : s.toList.isEmpty = false := by
            rw [ba_list]
            cases h : s.data.toList with
            | nil => rw [h] at hsz; simp at hsz; omega
            | cons a b => rfl
          have hn : s.data.toList ≠ [] := fun h => by rw [h] at hsz; simp at hsz; omega
          by_cases hodd : s.size = j + 1
          · have hm : ((s.size : Int) % 2 != 0) = true := by have := HL.out; simp; omega
            have hm' : (s.size : Int) % 2 = 1 := by have := HL.out; omega
            have hd : ∃ c, s.data.toList.drop j = [c] := by
              rw [List.drop_eq_getElem_cons (by omega), List.drop_eq_nil_of_le (by omega)]
              exact ⟨_, rfl⟩
            obtain ⟨c, hd⟩ := hd
            have hu : unhexL s.data.toList = none := by
              unfold unhexL
              rw [if_neg hno, if_neg hn, HP.out, hd]
              rfl
            have HU := Lib.hid hu
            clear hodd hd hu
            go_wp2
            go_ret2
            refine ⟨HB.out, ?_⟩
            rw [HU.out]
            rfl
          · have hj : s.size = j := by omega
            have hm : ((s.size : Int) % 2 != 0) = false := by have := HL.out; simp; omega
            have hm' : (s.size : Int) % 2 = 0 := by have := HL.out; omega
            have hu : unhexL s.data.toList = some o := by
              unfold unhexL
              rw [if_neg hno, if_neg hn, HP.out, List.drop_eq_nil_of_le (by omega)]
              simp [pairsL]
            have HU := Lib.hid hu
            clear hodd hj hu
            obtain ⟨Ao, co, rfl, hco⟩ := own_slice HO.out
            go_wp2
            go_ret2
            refine ⟨HB.out, ?_⟩
            rw [HU.out]
            exact ⟨Ao, co, rfl, HO.out⟩
end Go.Proofs.YtfehgpjnlkgekaaGreatDoor

/-
  lines.hex, walked.
-/
import Derived.Test.YtfehgpjnlkgekaaGreatDoorLnW
namespace Go.Proofs.YtfehgpjnlkgekaaGreatDoor
open Go.RowKit
set_option linter.unusedVariables false
set_option linter.unusedSimpArgs false

def HexI (bs : List Int) (n : Nat) (w : World) (k : Nat) (v iv : Value) (wr : World) : Prop :=
  ∃ i, iv = .int .i64 ((i : Nat) : Int) ∧ i + k = n ∧ wr.ownsRow w.heap.size 5 1 v (2 * i) (u8s (hexL (bs.take i))) ∧ Below w.heap.size w wr
theorem hexL_next {bs : List Int} {i : Nat} (h : i < bs.length) : hexL (bs.take (i + 1)) = hexL (bs.take i) ++ [hexD ((bs.getD i 0).toNat / 16), hexD ((bs.getD i 0).toNat % 16)] := by
  unfold hexL
  rw [take_snoc bs i h, List.flatMap_append, List.flatMap_singleton]
theorem hexL_len (bs : List Int) : (hexL bs).length = 2 * bs.length := by
  induction bs with
  | nil => rfl
  | cons z bs ih => unfold hexL at *; simp only [List.flatMap_cons, List.length_append, ih, List.length_cons, List.length_nil]; omega
theorem hex_shr {z : Int} (h : 0 ≤ z ∧ z < 256) : z / 2 ^ 4 = ((z.toNat / 16 : Nat) : Int) := by omega
theorem hexD_get : ∀ (q : Nat), q < 16 → ∀ h, (({ data := #[48, 49, 50, 51, 52, 53, 54, 55, 56, 57, 97, 98, 99, 100, 101, 102] } : ByteArray)[q]'h) = hexD q := by
  have : ∀ q : Fin 16, (({ data := #[48, 49, 50, 51, 52, 53, 54, 55, 56, 57, 97, 98, 99, 100, 101, 102] } : ByteArray)[q.val]'q.isLt) = hexD q.val := by decide
  exact fun q h _ => this ⟨q, h⟩
set_option maxHeartbeats 1600000 in
theorem hex_any (bs : List Int) (A : Option Addr) (n c : Nat) (w : World) (ha : RdI .u8 w A n bs) (hb : By bs) (hn : n ≤ 1000000) :
    Calls Tryz.prog 38 #[.slice A n c] w fun e w' => e = .returned (.string ⟨(hexL bs).toArray⟩) ∧ Below w.heap.size w w' := by
  have HA := Lib.hid ha
  have HB := Lib.hid hb
  have hl := ha.1
  clear ha hb
  go_enter Tryz.func38, Tryz.ntmps38
  go_wp2
  go_loopg [3, 8] n (HexI bs n w)
  case atStart => exact ⟨0, rfl, by omega, World.ownsRow_nil _ _ _ _, Below.refl _ _⟩
  case round =>
    obtain ⟨i, rfl, hi, ho, hbel⟩ := hrel
    have HBel := Lib.hid hbel
    have HO := Lib.hid ho
    clear hbel ho
    by_cases hlt : i < n
    · have hltI : (i : Int) < (n : Int) := by omega
      obtain ⟨b, off, rfl, _, hx⟩ := HA.out.cell HBel.out hlt
      have hzb := HB.out (bs.getD i 0) (by rw [List.getD_eq_getElem?_getD, List.getElem?_eq_getElem (by omega)]; exact List.getElem_mem (by omega))
      have HNx := Lib.hid (hexL_next (bs := bs) (i := i) (by omega))
      generalize bs.getD i 0 = z at *
      obtain ⟨zn, rfl⟩ : ∃ zn : Nat, z = zn := ⟨z.toNat, by omega⟩
      obtain ⟨q, hq⟩ : ∃ q, zn / 16 = q := ⟨_, rfl⟩
      obtain ⟨r, hr⟩ : ∃ r, zn % 16 = r := ⟨_, rfl⟩
      have hq16 : q < 16 := by omega
      have hr16 : r < 16 := by omega
      have hqI : (q : Int) < 16 := by omega
      have hrI : (r : Int) < 16 := by omega
      have e1 : (zn : Int) / 16 = (q : Int) := by omega
      have e2 : bits .and .u8 (zn : Int) 15 = (r : Int) := by
        have h := bits_mask .u8 8 (by decide) (fun n h0 h1 => by rw [IntKind.wrap_u8]; omega) 4 (by omega) (zn : Int) (by omega) (by omega)
        rw [show (15 : Int) = 2 ^ 4 - 1 from rfl, h]
        omega
      rw [Int.toNat_natCast, hq, hr] at HNx
      clear hq hr
      go_wp2
      refine wp_region_qs (fun _ _ => True) [(0, some 1), (1, some 2), (2, some 2), (3, some 1), (4, some 2), (5, some 2), (6, some 1), (7, none), (8, none), (9, some 2)] (by kernel_rfl) (by kernel_rfl) (by kernel_rfl) (by kernel_rfl) (by kernel_rfl) (fun _ _ _ _ _ h => h) trivial ?_
      simp only [List.map_cons, List.map_nil, List.getD_cons_succ, List.getD_cons_zero]
      (repeat (first | (refine qs_now (v := ?_) (by rfl) ?_ ?_; rotate_left 1; (· (intro w' hS; go_simp; (try (simp only [↓IntWalk.iteOmega]; go_simp)); (try simp (disch := omega) only [IntWalk.i64_in]); try with_reducible rfl)); simp only [Act.put, List.setIfInBounds_toArray, List.set_cons_zero, List.set_cons_succ]) | (refine qs_run (v := ?_) (by rfl) ?_ ?_; rotate_left 1; (· (intro j w' hS; go_simp; (try (simp only [↓IntWalk.iteOmega]; go_simp)); (try simp (disch := omega) only [IntWalk.i64_in]); try with_reducible rfl)); simp only [Act.put, List.setIfInBounds_toArray, List.set_cons_zero, List.set_cons_succ]) | (refine qs_mid (v := ?_) (by rfl) ?_ ?_; rotate_left 1; (· (intro j w' hj1 hj2 hS; go_simp; (try (simp only [↓IntWalk.iteOmega]; go_simp)); (try simp (disch := omega) only [IntWalk.i64_in]); try with_reducible rfl)); simp only [Act.put, List.setIfInBounds_toArray, List.set_cons_zero, List.set_cons_succ]) | (refine qs_skip (by rfl) ?_; simp only [Act.put, List.setIfInBounds_toArray, List.set_cons_zero, List.set_cons_succ])))
      rw [hexD_get q hq16, hexD_get r hr16]
      refine qs_act ?_
      go_wp2
      refine ⟨trivial, ?_⟩
      refine qs_act ?_
      obtain ⟨w2, hw2⟩ : ∃ w2, w2 = (wr.alloc (Obj.cells #[Value.int IntKind.u8 ↑(hexD q).toNat, Value.int IntKind.u8 ↑(hexD r).toNat] 5)).drew := ⟨_, rfl⟩
      have K2 := Lib.hid (show Blk w2 wr.heap.size 5 #[Value.int IntKind.u8 ↑(hexD q).toNat, Value.int IntKind.u8 ↑(hexD r).toNat] by rw [hw2]; exact (Blk.made _ _ _).drew)
      have L2 := Lib.hid (show Below wr.heap.size wr w2 by rw [hw2]; exact ((Below.refl _ _).alloc (Nat.le_refl _) _).drew)
      rw [← hw2]
      clear hw2
      have O2 := Lib.hid (own_lo8 HO.out L2.out)
      have B2 := Lib.hid (below_chain HBel.out L2.out)
      refine app_src rfl (.tmp 12) (.tmp 19) 24 rfl w.heap.size 5 _ 1 1 Tryz.underlying24 infoByte rfl (by omega) _ (2 * i) _ rfl O2.out _ 2 [Value.int .u8 ((hexD q).toNat : Int), Value.int .u8 ((hexD r).toNat : Int)] rfl (src_blk K2.out rfl) (by simp [Value.oneCell']) (by omega) (by omega) B2.out.size ?_
      intro v3 w3 ho3 hg3 hor3
      have O3 := Lib.hid ho3
      have B3 := Lib.hid (B2.out.grown hg3 B2.out.size (fun k hk => (O2.out.lt k hk).1))
      clear ho3 hg3 hor3
      refine wpList_nil ?_
      refine ⟨trivial, ?_⟩
      (repeat (first | (refine qs_now (v := ?_) (by rfl) ?_ ?_; rotate_left 1; (· (intro w' hS; go_simp; (try (simp only [↓IntWalk.iteOmega]; go_simp)); (try simp (disch := omega) only [IntWalk.i64_in]); try with_reducible rfl)); simp only [Act.put, List.setIfInBounds_toArray, List.set_cons_zero, List.set_cons_succ]) | (refine qs_run (v := ?_) (by rfl) ?_ ?_; rotate_left 1; (· (intro j w' hS; go_simp; (try (simp only [↓IntWalk.iteOmega]; go_simp)); (try simp (disch := omega) only [IntWalk.i64_in]); try with_reducible rfl)); simp only [Act.put, List.setIfInBounds_toArray, List.set_cons_zero, List.set_cons_succ]) | (refine qs_mid (v := ?_) (by rfl) ?_ ?_; rotate_left 1; (· (intro j w' hj1 hj2 hS; go_simp; (try (simp only [↓IntWalk.iteOmega]; go_simp)); (try simp (disch := omega) only [IntWalk.i64_in]); try with_reducible rfl)); simp only [Act.put, List.setIfInBounds_toArray, List.set_cons_zero, List.set_cons_succ]) | (refine qs_skip (by rfl) ?_; simp only [Act.put, List.setIfInBounds_toArray, List.set_cons_zero, List.set_cons_succ])))
      refine qs_nil ?_
      go_wp2
      go_roundg (gk - 1)
      case measure => omega
      case rel =>
        refine ⟨i + 1, by go_num, by omega, ?_, B3.out⟩
        rw [HNx.out]
        unfold u8s
        rw [List.map_append, show 2 * (i + 1) = 2 * i + 2 by omega]
        exact O3.out
    · obtain rfl : i = n := by omega
      obtain ⟨A3, c3, rfl, hc3⟩ := own_slice HO.out
      have he := conv_own HO.out
      rw [List.take_of_length_le (by omega)] at he
      go_wp2
      go_ret
      exact ⟨rfl, HBel.out⟩
end Go.Proofs.YtfehgpjnlkgekaaGreatDoor

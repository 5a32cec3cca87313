/-
  what this claim needs of: Crc, Crc2 (written by cut.py).
-/
import Derived.Test.YtpadifphnbdbpaaGreatPSha2
import Derived.Test.YtpadifphnbdbpaaGreatPW32
import Derived.Test.YtpadifphnbdbpaaGreatPOnce
import Derived.Test.YtpadifphnbdbpaaGreatPHuffSpec
namespace Go.Proofs.YtpadifphnbdbpaaGreat
open Go.RowKit
set_option linter.unusedVariables false
set_option linter.unusedSimpArgs false

def rowT (i : Nat) : List Value := (List.range 256).map fun j => if j < i then u32v (rowC j) else .int .u32 0
def tabC (done st : Int) (i : Nat) : Array Value := (.bool true :: .int .u32 2197175160 :: .int .u32 done :: .int .i32 st :: .int .u32 0 :: rowT i).toArray
theorem tabC_get (d s : Int) (i j : Nat) (hj : j < 256) : (tabC d s i)[5 + j]? = some (if j < i then u32v (rowC j) else .int .u32 0) := by
  unfold tabC
  rw [List.getElem?_toArray, Nat.add_comm]
  show (rowT i)[j]? = _
  unfold rowT
  rw [List.getElem?_map, List.getElem?_range hj]
  rfl
theorem rowT_set (i : Nat) (h : i < 256) : (rowT i).set i (u32v (rowC i)) = rowT (i + 1) := by
  unfold rowT
  apply List.ext_getElem (by simp)
  intro j h1 h2
  simp only [List.length_set, List.length_map, List.length_range] at h1
  rw [List.getElem_set]
  simp only [List.getElem_map, List.getElem_range]
  by_cases e : i = j
  · subst e
    rw [if_pos rfl, if_pos (by omega)]
  · rw [if_neg e]
    by_cases l : j < i
    · rw [if_pos l, if_pos (by omega)]
    · rw [if_neg l, if_neg (by omega)]
theorem tabC_set (d s : Int) (i : Nat) (h : i < 256) : (tabC d s i).setIfInBounds (5 + i) (u32v (rowC i)) = tabC d s (i + 1) := by
  unfold tabC
  rw [← rowT_set i h]
  simp [Nat.add_comm 5 i]
theorem tabC_done (d d' s : Int) (i : Nat) : (tabC d s i).setIfInBounds 2 (.int .u32 d') = tabC d' s i := by simp [tabC]
theorem tabC_st (d s s' : Int) (i : Nat) : (tabC d s i).setIfInBounds 3 (.int .i32 s') = tabC d s' i := by simp [tabC]
theorem poly_wv : (2197175160 : Int) = wv polyW := by decide
theorem neg_wv_mod (x : BitVec 32) : (-(wv x)) % 4294967296 = wv (-x) := by have := neg_wv x; rwa [IntKind.wrap_u32] at this
theorem step_val (x : BitVec 32) : bits .xor .u32 (wv x / 2) (bits .and .u32 2197175160 ((-(bits .and .u32 (wv x) 1)) % 4294967296)) = wv (stepC polyW x) := by
  have e1 : wv x / (2 : Int) = wv (x >>> 1) := shr_wv x 1
  have e2 : (1 : Int) = wv 1#32 := by decide
  rw [e1, poly_wv, e2, bits_and, neg_wv_mod, bits_and, bits_xor, stepC_neg]
def FlI (d s : Int) (g : Nat) (w : World) (m : Nat) (iv : Value) (wr : World) : Prop :=
  ∃ i : Nat, iv = .int .i64 ((i : Nat) : Int) ∧ i ≤ 256 ∧ i + m ≤ 256 ∧ 256 ≤ i + m ∧ Blk wr g 304 (tabC d s i) ∧ w.grownBy wr (some g)
def FsI (d s : Int) (g i : Nat) (w : World) (m : Nat) (kv xv : Value) (wr : World) : Prop :=
  ∃ k : Nat, kv = .int .i64 ((k : Nat) : Int) ∧ k ≤ 8 ∧ k + m ≤ 8 ∧ 8 ≤ k + m ∧ xv = .int .u32 (wv (stepN polyW k (b32 i))) ∧ Blk wr g 304 (tabC d s i) ∧ w.grownBy wr (some g)
set_option maxRecDepth 100000 in
set_option maxHeartbeats 1600000 in
theorem fill_any (d s : Int) (g : Nat) (w : World) (hg : Blk w g 304 (tabC d s 0)) :
    Calls Tryz.prog 192 #[.pointer (some ⟨g, 0, none⟩)] w fun e w' => e = .returned (.tuple #[]) ∧ Blk w' g 304 (tabC d s 256) ∧ w.grownBy w' (some g) := by
  have HG := Lib.hid hg
  clear hg
  go_enter Tryz.func192, Tryz.ntmps192
  go_wp2
  go_loopg [4, 2, 3] 256 (fun m iv _ _ wr => FlI d s g w m iv wr)
  case atStart => exact ⟨0, rfl, by omega, by omega, by omega, HG.out, ⟨rfl, rfl, rfl, Nat.le_refl _, fun _ _ _ => rfl⟩⟩
  case round =>
    obtain ⟨i, rfl, hi, k1, k2, hk, hb⟩ := hrel
    have HK := Lib.hid hk
    have HB := Lib.hid hb
    clear hk hb
    by_cases hlt : i < 256
    · have hltI : (i : Int) < 256 := by omega
      obtain ⟨f0, rfl⟩ : ∃ f0, gk = f0 + 1 := ⟨gk - 1, by omega⟩
      have eI : IntKind.u32.wrap (i : Int) = (i : Int) := by rw [IntKind.wrap_u32]; omega
      go_wp2
      go_loopg [9, 3] 8 (fun m kv xv wr => FsI d s g i w m kv xv wr)
      case atStart =>
        refine ⟨0, rfl, by omega, by omega, by omega, ?_, HK.out, HB.out⟩
        rw [stepN, ← b32_wv (by omega)]
      case round =>
        obtain ⟨k, rfl, hk8, j1, j2, rfl, hk, hb⟩ := hrel
        have HK2 := Lib.hid hk
        have HB2 := Lib.hid hb
        clear hk hb
        by_cases hl8 : k < 8
        · have hl8I : (k : Int) < 8 := by omega
          have cP : wr.cell? ⟨g, 1, none⟩ = some (.int .u32 2197175160) := HK2.out.cell rfl
          go_wp2
          rw [step_val]
          go_roundg (gk - 1)
          case measure => omega
          case rel => exact ⟨k + 1, by go_num, by omega, by omega, by omega, rfl, HK2.out, HB2.out⟩
        · have hl8I : ¬ (k : Int) < 8 := by omega
          obtain rfl : k = 8 := by omega
          have cI : wr.cell? ⟨g, 5 + i, none⟩ = some (.int .u32 0) := HK2.out.cell (by rw [tabC_get _ _ _ _ hlt, if_neg (Nat.lt_irrefl _)])
          have fI := HK2.out.free (5 + i)
          go_wp2
          obtain ⟨w2, hw2⟩ : ∃ w2, w2 = wr.setCell ⟨g, 5 + i, none⟩ (.int .u32 (wv (stepN polyW 8 (b32 i)))) := ⟨_, rfl⟩
          have K3 := Lib.hid (show Blk w2 g 304 (tabC d s (i + 1)) by rw [hw2, ← tabC_set _ _ _ hlt]; exact HK2.out.put (5 + i) _)
          have L3 := Lib.hid (show w.grownBy w2 (some g) by rw [hw2]; exact gb_trans HB2.out (grown_put _ _ _))
          rw [← hw2]
          clear hw2 cI fI
          go_roundg f0
          case measure => omega
          case rel => exact ⟨i + 1, by go_num, by omega, by omega, by omega, K3.out, L3.out⟩
    · have hltI : ¬ (i : Int) < 256 := by omega
      obtain rfl : i = 256 := by omega
      go_wp2
      first | go_end0 | (simp only [Exit.inBlock, Exit.then]; refine bodyPost_ret (results_none rfl _ _ _) rfl ?_) | refine bodyPost_ret (results_none rfl _ _ _) rfl ?_
      exact ⟨rfl, HK.out, HB.out⟩
def CrcTabPost (w : World) (e : Ending) (w' : World) : Prop := ∃ g, e = .returned (.pointer (some ⟨g, 0, none⟩)) ∧ w.heap.size ≤ g ∧ Blk w' g 304 (tabC 0 0 0) ∧ Below w.heap.size w w'
set_option maxRecDepth 100000 in
set_option maxHeartbeats 1600000 in
theorem tabnew_any (w : World) : Calls Tryz.prog 173 #[.int .u32 2197175160] w (CrcTabPost w) := by
  go_enter Tryz.func173, Tryz.ntmps173
  go_wp2
  go_ret
  refine ⟨w.heap.size, rfl, Nat.le_refl _, ?_, (Below.refl _ _).alloc (Nat.le_refl _) _⟩
  exact Blk.made _ _ _
end Go.Proofs.YtpadifphnbdbpaaGreat
namespace Go.Proofs.YtpadifphnbdbpaaGreat
open Go.RowKit
set_option linter.unusedVariables false
set_option linter.unusedSimpArgs false

theorem bits_xor8 (a b : Nat) (ha : a < 256) (hb : b < 256) : bits .xor .u8 (a : Int) (b : Int) = ((a ^^^ b : Nat) : Int) := by
  show IntKind.u8.wrap ((((BitVec.ofInt 8 (a : Int)) ^^^ (BitVec.ofInt 8 (b : Int))).toNat : Nat) : Int) = _
  have h : a ^^^ b < 256 := Nat.xor_lt_two_pow (n := 8) ha hb
  rw [BitVec.ofInt_natCast, BitVec.ofInt_natCast, BitVec.toNat_xor, BitVec.toNat_ofNat, BitVec.toNat_ofNat, Nat.mod_eq_of_lt (by omega), Nat.mod_eq_of_lt (by omega), IntKind.wrap_u8]
  omega
theorem crcFrom_take (x : BitVec 32) (b : List Int) (i : Nat) (h : i < b.length) : crcFrom x (b.take (i + 1)) = byteC (crcFrom x (b.take i)) (b.getD i 0).toNat := by
  rw [List.take_add_one, List.getElem?_eq_getElem h, Option.toList_some, crcFrom_snoc, List.getD_eq_getElem?_getD, List.getElem?_eq_getElem h]
  rfl
theorem byte_val (x : BitVec 32) (z : Nat) (hz : z < 256) : bits .xor .u32 (wv x / 256) (wv (rowC ((x.toNat % 256) ^^^ z))) = wv (byteC x z) := by
  have e1 : wv x / (256 : Int) = wv (x >>> 8) := shr_wv x 8
  rw [e1, bits_xor, byteC_row x z hz]
theorem once_kept {w : World} {g : Nat} {k : Nat} (h : Blk w g 304 (tabC 0 1 k)) : OnceKept g 2 w := ⟨h.cell rfl, h.cell rfl, h.free _, h.free _⟩
theorem max_xor (x : BitVec 32) : bits .xor .u32 IntKind.u32.max (wv x) = wv (~~~x) := by
  rw [show IntKind.u32.max = wv (~~~(0#32)) by decide, bits_xor]
  congr 1
def AdI (b : List Int) (g : Nat) (w : World) (n m : Nat) (iv xv : Value) (wr : World) : Prop :=
  ∃ i : Nat, iv = .int .i64 ((i : Nat) : Int) ∧ i ≤ n ∧ i + m ≤ n ∧ n ≤ i + m ∧ xv = .int .u32 (wv (crcFrom (~~~(0#32)) (b.take i))) ∧ Blk wr g 304 (tabC 1 0 256) ∧ w.grownBy wr (some g)
set_option maxRecDepth 100000 in
set_option maxHeartbeats 3200000 in
theorem tabadd_any (g : Nat) (b : List Int) (A : Option Addr) (n c : Nat) (w : World) (hg : Blk w g 304 (tabC 0 0 0)) (hr : RdI .u8 w A n b) (hA : 0 < n → ∀ a, A = some a → a.block ≠ g) (hB : ∀ z ∈ b, 0 ≤ z ∧ z < 256) (hn : n ≤ 1000000000) :
    Calls Tryz.prog 174 #[.pointer (some ⟨g, 0, none⟩), .int .u32 0, .slice A n c] w fun e w' => e = .returned (.int .u32 (wv (crcB b))) ∧ w.grownBy w' (some g) := by
  have HG := Lib.hid hg
  have HR := Lib.hid hr
  have HA := Lib.hid hA
  have HBy := Lib.hid hB
  have hbl := Lib.hid hr.1
  have k0 : w.cell? ⟨g, 0, none⟩ = some (.bool true) := hg.cell rfl
  clear hg hr hA hB
  go_enter Tryz.func174, Tryz.ntmps174
  go_upto_region 4 with (go_at_call 191; refine (do_o g 2 192 (.pointer (some ⟨g, 0, none⟩)) (fun w2 => Blk w2 g 304 (tabC 0 1 256) ∧ w.grownBy w2 (some g)) w (HG.out.cell rfl) (HG.out.cell rfl) (HG.out.free _) (HG.out.free _) (fun _ => rfl) ((fill_any 0 1 g _ (by rw [← tabC_st 0 0 1 0]; exact HG.out.put 3 _)).mono (fun e w' h => ⟨h.1, once_kept h.2.1, h.2.1, gb_trans (grown_put w ⟨g, 3, none⟩ _) h.2.2⟩))).mono ?_; rintro e w' ⟨rfl, w2, ⟨hR, hgr⟩, rfl⟩)
  obtain ⟨wa, hwa⟩ : ∃ wa, wa = ((w2.setCell ⟨g, 2, none⟩ (.int .u32 1)).setCell ⟨g, 3, none⟩ (.int .i32 0)).drew := ⟨_, rfl⟩
  have Ka := Lib.hid (show Blk wa g 304 (tabC 1 0 256) by rw [hwa, ← tabC_st 1 1 0 256, ← tabC_done 0 1 1 256]; exact ((hR.put 2 _).put 3 _).drew)
  have Ga := Lib.hid (show w.grownBy wa (some g) by rw [hwa]; exact gb_trans hgr (gb_trans (grown_put w2 ⟨g, 2, none⟩ (.int .u32 1)) (gb_put _ ⟨g, 3, none⟩ _)))
  rw [← hwa]
  clear hwa hR hgr k0
  go_upto_region 6 with fail
  have e0 : bits .xor .u32 IntKind.u32.max 0 = wv (crcFrom (~~~(0#32)) (b.take 0)) := by rw [List.take_zero]; decide
  go_loopg [29, 7, 9] n (fun m iv xv _ wr => AdI b g w n m iv xv wr)
  case atStart => exact ⟨0, rfl, by omega, by omega, by omega, by first | rw [e0] | rfl, Ka.out, Ga.out⟩
  case round =>
    obtain ⟨i, rfl, hi, k1, k2, rfl, hk, hb⟩ := hrel
    have HK := Lib.hid hk
    have HB := Lib.hid hb
    clear hk hb
    by_cases hlt : i < n
    · have hltI : (i : Int) < (n : Int) := by omega
      obtain ⟨bb, off, hAe, hbb, hce⟩ := (rd_gb HR.out HB.out (HA.out (by omega))).2 (by omega)
      subst hAe
      have cI := hce i hlt
      have bI := HBy.out (b.getD i 0) (by rw [List.getD_eq_getElem?_getD, List.getElem?_eq_getElem (by have := hbl.out; omega)]; exact List.getElem_mem _)
      have HSt := Lib.hid (crcFrom_take (~~~(0#32)) b i (by have := hbl.out; omega))
      clear hce
      generalize b.getD i 0 = z at *
      obtain ⟨z, rfl⟩ : ∃ y : Nat, z = y := ⟨z.toNat, by omega⟩
      rw [Int.toNat_natCast] at HSt
      generalize crcFrom (~~~(0#32)) (b.take i) = x at *
      obtain ⟨q, hq⟩ : ∃ q, q = (x.toNat % 256) ^^^ z := ⟨_, rfl⟩
      have hq8 : q < 256 := by rw [hq]; exact Nat.xor_lt_two_pow (n := 8) (by omega) (by omega)
      have eX : bits .xor .u8 (wv x % 256) (z : Int) = (q : Int) := by
        rw [hq, ← bits_xor8 _ _ (by omega) (by omega)]
        unfold wv
        rw [show ((x.toNat % 256 : Nat) : Int) = (x.toNat : Int) % 256 by omega]
      have cT : wr.cell? ⟨g, 5 + q, none⟩ = some (.int .u32 (wv (rowC q))) := HK.out.cell (by rw [tabC_get _ _ _ _ hq8, if_pos hq8]; rfl)
      have HQ := Lib.hid hq
      clear hq
      go_wp2
      go_roundg (gk - 1)
      case measure => omega
      case rel => exact ⟨i + 1, by go_num, by omega, by omega, by omega, by rw [HSt.out, HQ.out, byte_val x z (by omega)], HK.out, HB.out⟩
    · have hltI : ¬ (i : Int) < (n : Int) := by omega
      obtain rfl : i = n := by omega
      go_wp2
      go_ret
      refine ⟨?_, HB.out⟩
      show Ending.returned (.int .u32 (bits .xor .u32 IntKind.u32.max (wv (crcFrom (4294967295#32) (b.take i))))) = _
      rw [List.take_of_length_le (by have := hbl.out; omega)]
      rw [max_xor]
      rfl
set_option maxRecDepth 100000 in
theorem crcadd_any (b : List Int) (A : Option Addr) (n c : Nat) (w : World) (hr : RdI .u8 w A n b) (hB : ∀ z ∈ b, 0 ≤ z ∧ z < 256) (hn : n ≤ 1000000000) :
    Calls Tryz.prog 144 #[.int .u32 0, .slice A n c] w fun e w' => e = .returned (.int .u32 (wv (crcB b))) ∧ Below w.heap.size w w' := by
  have HR := Lib.hid hr
  clear hr
  go_enter Tryz.func144, Tryz.ntmps144
  go_wp2_with (first | (go_at_call 173; refine (tabnew_any w).mono ?_; rintro e w1 ⟨g, rfl, hg, hk, hb⟩; have HK := Lib.hid hk; have HB := Lib.hid hb; clear hk hb) | (go_at_call 174; refine (tabadd_any g b A n c w1 HK.out (HR.out.below HB.out) (fun h0 a e => by obtain ⟨b2, o2, e2, hlt, _⟩ := HR.out.2 h0; rw [e2] at e; injection e with e; rw [← e]; show b2 ≠ g; omega) hB hn).mono ?_))
  rintro e w2 ⟨rfl, hgr⟩
  go_wp2
  go_ret
  exact ⟨rfl, HB.out.grown hgr HB.out.size (fun k hk => by injection hk with hk; omega)⟩
theorem crcsum_any (b : List Int) (A : Option Addr) (n c : Nat) (w : World) (hr : RdI .u8 w A n b) (hB : ∀ z ∈ b, 0 ≤ z ∧ z < 256) (hn : n ≤ 1000000000) :
    Calls Tryz.prog 114 #[.slice A n c] w fun e w' => e = .returned (.int .u32 (wv (crcB b))) ∧ Below w.heap.size w w' := by
  have HR := Lib.hid hr
  clear hr
  go_enter Tryz.func114, Tryz.ntmps114
  go_wp2_with (go_at_call 144; refine (crcadd_any b A n c w HR.out hB hn).mono ?_)
  rintro e w2 ⟨rfl, hb⟩
  go_wp2
  go_ret
  exact ⟨rfl, hb⟩
end Go.Proofs.YtpadifphnbdbpaaGreat

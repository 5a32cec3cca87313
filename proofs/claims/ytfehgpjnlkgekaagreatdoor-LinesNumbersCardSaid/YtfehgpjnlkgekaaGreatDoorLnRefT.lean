/-
  peatbankref31.Tell, walked.
-/
import Derived.Test.YtfehgpjnlkgekaaGreatDoorLnTaleS
import Derived.Test.YtfehgpjnlkgekaaGreatDoorRowZ
namespace Go.Proofs.YtfehgpjnlkgekaaGreatDoor
open Go.RowKit
set_option linter.unusedVariables false
set_option linter.unusedSimpArgs false

theorem rowL_one (w : List UInt8) (n : Int) : rowL w [n] = w ++ 32 :: Lib.itoa n := by simp [rowL]
theorem conv_z {w : World} {base g n c : Nat} {l : List UInt8} (h : RowZ w base 5 (.slice (some ⟨g, 0, none⟩) n c) n (u8s l)) : (convert 24 9 (.slice (some ⟨g, 0, none⟩) n c)).run Tryz.prog w = .ok (.string ⟨l.toArray⟩) w := by
  have hl : (l.map fun c => (c.toNat : Int)).length = n := by have := h.1; simpa [u8s] using this
  rw [← str_nums]
  refine run_convert_bytes_arg (P := Tryz.prog) w 24 5 Tryz.underlying24 Tryz.underlying5 g 0 n c _ hl (fun i hi => ?_) 9 Tryz.underlying9
  rw [Nat.zero_add]
  refine h.cell i _ ?_
  rw [u8s_ints, List.getElem?_map]
  rw [List.getD_eq_getElem?_getD, List.getElem?_eq_getElem (by omega)]
  rfl
theorem blk_grown0 {w w' : World} {g base size n : Nat} {t e : TypeId} {cs : Array Value} {v : Value} {xs : List Value} (hb : Blk w g t cs) (ho : w.ownsRow base e size v n xs) (hne : e ≠ t) (hg : w.grownBy w' v.ownBlock) : Blk w' g t cs :=
  hb.grown hg (fun e => by
    rcases ty_apartL hb ho hne with h | h
    · rw [h] at e; cases e
    · exact h e.symm)
def SmI (nums sl : List Int) (w4 : World) (k : Nat) (sv iv : Value) (wr : World) : Prop :=
  ∃ i : Nat, iv = .int .i64 (i : Int) ∧ i + k = nums.length ∧ sv = .bool (someL (nums.take i) sl) ∧ wr = w4
theorem someL_next {nums sl : List Int} {i : Nat} (h : i < nums.length) : someL (nums.take (i + 1)) sl = (someL (nums.take i) sl || (nums.getD i 0 != 0)) := by
  unfold someL
  rw [take_snoc nums i h, List.any_append]
  simp only [List.any_cons, List.any_nil, Bool.or_false]
  cases (nums.take i).any (fun n => n != 0) <;> cases (nums.getD i 0 != 0) <;> cases (!sl.isEmpty) <;> rfl
def BtI (bs : List Int) (Y : List UInt8) (g0 : Nat) (cs : Array Value) (n : Nat) (w : World) (k : Nat) (v iv : Value) (wr : World) : Prop :=
  ∃ i m : Nat, iv = .int .i64 (i : Int) ∧ i + k = n ∧ m = (Y ++ hexL (bs.take i)).length ∧ RowZ wr w.heap.size 5 v m (u8s (Y ++ hexL (bs.take i))) ∧ Blk wr g0 47 cs ∧ Below w.heap.size w wr
set_option maxRecDepth 100000 in
set_option maxHeartbeats 4800000 in
theorem ref_tell (e sn : Int) (bs : List Int) (BA SA : Option Addr) (bn bc snn sc : Nat) (v0 v1 v2 v3 v4 v5 v6 v7 v8 : Int) (sl : List Int) (w : World) (hB : RdI .u8 w BA bn bs) (hS : RdI .i64 w SA snn sl) (ht : LnT w) (hb : By bs) (hsl : ∀ z ∈ sl, i64b z) (he : i64b e) (hsn : i64b sn) (hnum : ∀ z ∈ [v0, v1, v2, v3, v4, v5, v6, v7, v8], i64b z) (hbn : bn ≤ 1000000) (hsnn : snn ≤ 100000) :
    Calls Tryz.prog 32 #[.agg (taleV e sn (.slice BA bn bc) v0 v1 v2 v3 v4 v5 v6 v7 v8 (.slice SA snn sc))] w fun ev w' => ev = .returned (.string ⟨(tellL e sn [v0, v1, v2, v3, v4, v5, v6, v7, v8] sl bs).toArray⟩) ∧ Below w.heap.size w w' := by
  have HT := Lib.hid ht
  have HBB := Lib.hid hB
  have HSS := Lib.hid hS
  have HSl := Lib.hid hsl
  have HNum := Lib.hid hnum
  have HBy := Lib.hid hb
  have hbl := Lib.hid hB.1
  have hsl' := Lib.hid hS.1
  obtain ⟨cs, hcs⟩ : ∃ cs, cs = taleV e sn (.slice BA bn bc) v0 v1 v2 v3 v4 v5 v6 v7 v8 (.slice SA snn sc) := ⟨_, rfl⟩
  have HCs := Lib.hid hcs
  unfold taleV
  clear ht hB hS hcs hsl hnum hb
  go_enter Tryz.func32, Tryz.ntmps32
  go_upto_if 13 with fail
  obtain ⟨wa, hwa⟩ : ∃ wa, wa = w.alloc (Obj.cells (taleV e sn (.slice BA bn bc) v0 v1 v2 v3 v4 v5 v6 v7 v8 (.slice SA snn sc)) 47) := ⟨_, rfl⟩
  have H0 : Hid (TS w w.heap.size cs okW ⟨okW.toArray⟩ wa) := Lib.hid (by rw [hwa, HCs.out]; exact ⟨rfl, Blk.made _ _ _, (Below.refl _ _).alloc (Nat.le_refl _) _, Nat.le_refl _, by simp⟩)
  unfold taleV at hwa
  rw [← hwa]
  clear hwa
  go_cut [3] (fun s3 wx => ∃ s : ByteArray, s3 = .string s ∧ TS w w.heap.size cs (if e = 0 then okW else rowL errW [e]) s wx)
  case first =>
    have K := H0.out.2.1
    rw [HCs.out] at K
    unfold taleV at K
    have k0 := K.cell (i := 0) rfl
    clear K
    by_cases h : e = 0
    · have h' : (e != 0) = false := by simpa using h
      have HE := Lib.hid h
      clear h
      go_wp2_with fail
      go_meet
      refine ⟨_, rfl, ?_⟩
      rw [if_pos HE.out]
      exact H0.out
    · have h' : (e != 0) = true := by simpa using h
      have HE := Lib.hid h
      clear h
      have hi21 := itoa_len he
      have hs1 : ¬ 9223372036854775807 < 6 + (Lib.itoa e).length := by omega
      go_wp2_with fail
      refine (itoa_any e he wa (HT.out.below H0.out.2.2.1)).mono ?_
      rintro ev wb ⟨rfl, hbb⟩
      have HBb := Lib.hid hbb
      clear hbb
      go_wp2_with fail
      go_meet
      refine ⟨_, rfl, ?_⟩
      rw [if_neg HE.out, rowL_one]
      exact H0.out.next HBb.out (cat_list [101, 114, 114, 111, 114, 32] _)
  case rest =>
  obtain ⟨s1, rfl, h1⟩ := hcut
  have hl1 : (if e = 0 then okW else rowL errW [e]).length ≤ 100 := by
    have := rowL_len (word := errW) (ns := [e]) (fun z hz => by rw [List.mem_singleton] at hz; subst hz; exact he)
    split
    · decide
    · simp only [List.length_cons, List.length_nil] at this; have e5 : errW.length = 5 := rfl; omega
  generalize hX1 : (if e = 0 then okW else rowL errW [e]) = X1 at *
  have HX1 := Lib.hid hX1
  have H1 := Lib.hid h1
  clear hX1 h1 H0
  have K := H1.out.2.1
  rw [HCs.out] at K
  unfold taleV at K
  have k2 := K.cell (i := 2) rfl
  clear K
  go_upto_if 20 with fail
  go_cut [3] (fun s3 wx => ∃ s : ByteArray, s3 = .string s ∧ TS w w.heap.size cs (X1 ++ (if sn = 0 then [] else rowL (32 :: snapW) [sn])) s wx)
  case first =>
    obtain rfl := H1.out.1
    by_cases h : sn = 0
    · have h' : (sn != 0) = false := by simpa using h
      have HE := Lib.hid h
      clear h
      go_wp2_with fail
      go_meet
      refine ⟨_, rfl, ?_⟩
      rw [if_pos HE.out, List.append_nil]
      exact H1.out
    · have h' : (sn != 0) = true := by simpa using h
      have HE := Lib.hid h
      clear h
      have hi21 := itoa_len hsn
      have hs1 : ¬ 9223372036854775807 < X1.length + 6 := by omega
      have hs2 : ¬ 9223372036854775807 < X1.length + 6 + (Lib.itoa sn).length := by omega
      go_wp2_with fail
      refine (itoa_any sn hsn wc (HT.out.below H1.out.2.2.1)).mono ?_
      rintro ev wb ⟨rfl, hbb⟩
      have HBb := Lib.hid hbb
      clear hbb
      go_wp2_with fail
      go_meet
      refine ⟨_, rfl, ?_⟩
      rw [if_neg HE.out, rowL_one]
      refine H1.out.next HBb.out ?_
      have e1 : (⟨X1.toArray⟩ : ByteArray) ++ ⟨#[32, 115, 110, 97, 112, 32]⟩ = ⟨(X1 ++ [32, 115, 110, 97, 112, 32]).toArray⟩ := cat_list _ _
      rw [e1, cat_list]
      simp [snapW]
  case rest =>
  obtain ⟨s2, rfl, h2⟩ := hcut
  have hl2 : (X1 ++ (if sn = 0 then [] else rowL (32 :: snapW) [sn])).length ≤ 200 := by
    have := rowL_len (word := 32 :: snapW) (ns := [sn]) (fun z hz => by rw [List.mem_singleton] at hz; subst hz; exact hsn)
    simp only [List.length_cons, List.length_nil] at this
    have e5 : snapW.length = 4 := rfl
    rw [List.length_append]
    split
    · simp only [List.length_nil]; omega
    · omega
  generalize hX2 : X1 ++ (if sn = 0 then [] else rowL (32 :: snapW) [sn]) = X2 at *
  have HX2 := Lib.hid hX2
  have H2 := Lib.hid h2
  clear hX2 h2 H1 k2
  have H1w := H2.out.2.2.1.size
  have K := H2.out.2.1
  rw [HCs.out] at K
  unfold taleV at K
  have KK := Lib.hid K
  clear K
  go_wp2_with (refine wpl_load_part rfl 45 (.tmp 27) rfl w.heap.size 3 rfl _ _ KK.out [.int .i64 v0, .int .i64 v1, .int .i64 v2, .int .i64 v3, .int .i64 v4, .int .i64 v5, .int .i64 v6, .int .i64 v7, .slice SA snn sc, .int .i64 v8] rfl _ Tryz.underlying45 rfl infoStat ?_)
  obtain ⟨w4, hw4⟩ : ∃ w4, w4 = (wc.alloc (Obj.cells (statV v0 v1 v2 v3 v4 v5 v6 v7 v8 (.slice SA snn sc)) 45)).alloc (Obj.cells #[.int .i64 v0, .int .i64 v1, .int .i64 v2, .int .i64 v3, .int .i64 v4, .int .i64 v5, .int .i64 v6, .int .i64 v7, .int .i64 v8] 3) := ⟨_, rfl⟩
  obtain ⟨nums, hnums⟩ : ∃ nums, nums = [v0, v1, v2, v3, v4, v5, v6, v7, v8] := ⟨_, rfl⟩
  have B4 := Lib.hid (show Blk w4 wc.heap.size 45 (statV v0 v1 v2 v3 v4 v5 v6 v7 v8 (.slice SA snn sc)) by rw [hw4]; exact (Blk.made _ _ _).alloc _)
  have B5 := Lib.hid (show Blk w4 (wc.heap.size + 1) 3 (nums.map (Value.int .i64)).toArray by rw [hw4, hnums]; exact Blk.made_at _ _ _ (by simp))
  have L4 := Lib.hid (show Below wc.heap.size wc w4 by rw [hw4]; exact (((Below.refl _ _).alloc (Nat.le_refl _) _).alloc (by simp) _))
  unfold statV at hw4
  rw [← hw4]
  rw [← hnums] at HNum
  have hnl : nums.length = 9 := by rw [hnums]; rfl
  have HNs := Lib.hid hnums
  have H4 := Lib.hid (H2.out.next L4.out H2.out.1)
  clear hw4 hnums H2 KK
  have hst : decide (0 < snn) = someL [] sl := by
    have := hsl'.out
    cases sl with
    | nil => simp at this; subst this; rfl
    | cons a b => simp at this; simp [someL]; omega
  have HSt := Lib.hid hst
  have HNl := Lib.hid hnl
  clear hst hnl
  obtain ⟨g5, hg5⟩ : ∃ g5, g5 = wc.heap.size + 1 := ⟨_, rfl⟩
  rw [← hg5] at B5
  rw [← hg5]
  have hwc5 : w.heap.size ≤ g5 := by have := H4.out.2.2.2.1; have := H4.out.2.2.2.2; have h3 := L4.out.size; have := B4.out.lt; have := H1w; omega
  clear hg5
  generalize wc.heap.size = g4 at *
  go_loopg [6, 7] 9 (SmI nums sl w4)
  case atStart => exact ⟨0, rfl, by have := HNl.out; omega, by rw [HSt.out]; rfl, rfl⟩
  case round =>
    obtain ⟨i, rfl, hi, rfl, rfl⟩ := hrel
    rw [HNl.out] at hi
    by_cases hlt : i < 9
    · have hltI : (i : Int) < 9 := by omega
      have hx := B5.out.cell (i := i) (v := .int .i64 (nums.getD i 0)) (by have := HNl.out; simp [show i < nums.length by omega])
      have HNx := Lib.hid (someL_next (sl := sl) (show i < nums.length by have := HNl.out; omega))
      generalize nums.getD i 0 = z at *
      generalize someL (nums.take i) sl = b at *
      obtain ⟨q, hq⟩ : ∃ q, (z != 0) = q := ⟨_, rfl⟩
      rw [hq] at HNx
      cases b with
      | true =>
        go_wp2
        go_roundg (gk - 1)
        case measure => omega
        case rel => exact ⟨i + 1, by go_num, by have := HNl.out; omega, by rw [HNx.out]; rfl, rfl⟩
      | false =>
        go_wp2
        go_roundg (gk - 1)
        case measure => omega
        case rel => exact ⟨i + 1, by go_num, by have := HNl.out; omega, by rw [HNx.out]; simp, rfl⟩
    · obtain rfl : i = 9 := by omega
      rw [List.take_of_length_le (by rw [HNl.out]; omega)]
      obtain ⟨bm, hbm⟩ : ∃ bm, bm = someL nums sl := ⟨_, rfl⟩
      rw [← hbm]
      have HBm := Lib.hid hbm
      clear hbm
      go_upto_if 71 with fail
      obtain ⟨w4, rfl⟩ : ∃ w4 : World, w4 = wr := ⟨_, rfl⟩
      go_cut [3] (fun s3 wx => ∃ s : ByteArray, s3 = .string s ∧ TS w w.heap.size cs (X2 ++ statL nums sl) s wx)
      case first =>
        obtain rfl := H4.out.1
        cases bm with
        | false =>
          have HSm := Lib.hid HBm.out.symm
          go_wp2_with fail
          go_meet
          refine ⟨_, rfl, ?_⟩
          unfold statL
          rw [HSm.out, if_neg (by simp), List.append_nil]
          exact H4.out
        | true =>
          have HSm := Lib.hid HBm.out.symm
          have k8 := B4.out.cell (i := 8) rfl
          have hs1 : ¬ 9223372036854775807 < X2.length + 5 := by omega
          have HO := Lib.hid (show w4.ownsRow w.heap.size 3 1 (.slice (some ⟨g5, 0, none⟩) 9 9) 9 (nums.map (Value.int .i64)) from ⟨by have := HNl.out; simp [this], .inr ⟨g5, 9, _, rfl, hwc5, B5.out, Nat.le_refl _, by unfold maxLen; simp, by have := HNl.out; simp [this], by
            have := HNl.out
            rw [List.take_of_length_le (by simp [this])]⟩⟩)
          obtain ⟨N, hN⟩ : ∃ N, N = 9 + snn := ⟨_, rfl⟩
          have HN := Lib.hid hN
          clear hN
          go_wp2_with (at_builtin; refine heldW ?_)
          unfold HeldW
          refine app_src rfl (.tmp 74) (.tmp 76) 43 rfl w.heap.size 3 _ 1 8 Tryz.underlying43 infoInt rfl (by omega) _ 9 _ rfl HO.out _ snn _ rfl (Src.of_rd (HSS.out.below H4.out.2.2.1)) (ints_oneCell _ _) (by omega) (by omega) H4.out.2.2.1.size ?_
          intro v5 w5 ho5 hg5 hor5
          rw [← List.map_append, ← HN.out] at ho5
          obtain ⟨A5, c5, rfl, hc5⟩ := own_slice ho5
          have R5 := Lib.hid (RdI.of_own ho5)
          have L5 := Lib.hid (below_of_grown H4.out.2.2.1 hg5 (fun k hk => (HO.out.lt k hk).1))
          have K5 := Lib.hid (blk_grown0 H4.out.2.1 HO.out (by decide) hg5)
          have hN9 : N ≤ 200000 := by have := HN.out; omega
          clear ho5 hg5 hor5
          go_wp2
          go_loopg [3, 8] N (RowI (X2 ++ 32 :: statW) (nums ++ sl) w5)
          case atStart =>
            refine ⟨0, rfl, by have := HN.out; have := HNl.out; have := hsl'.out; simp; omega, ?_, Below.refl _ _⟩
            have e1 : (⟨X2.toArray⟩ : ByteArray) ++ ⟨#[32, 115, 116, 97, 116]⟩ = ⟨(X2 ++ [32, 115, 116, 97, 116]).toArray⟩ := cat_list _ _
            rw [e1]
            simp [rowL, statW]
          case round =>
            obtain ⟨j, rfl, hj, rfl, hbel⟩ := hrel
            have hjn : j + gk = N := by have := HN.out; have := HNl.out; have := hsl'.out; simp at hj; omega
            have HBel := Lib.hid hbel
            clear hbel hj
            by_cases hlt : j < N
            · have hltI : (j : Int) < (N : Int) := by omega
              obtain ⟨b, off, rfl, _, hx⟩ := R5.out.cell HBel.out hlt
              have hnsl : (nums ++ sl).length = N := R5.out.1
              have hzb : i64b ((nums ++ sl).getD j 0) := by
                have hm : (nums ++ sl).getD j 0 ∈ nums ++ sl := by rw [List.getD_eq_getElem?_getD, List.getElem?_eq_getElem (by omega)]; exact List.getElem_mem (by omega)
                rcases List.mem_append.1 hm with h | h
                · exact HNum.out _ h
                · exact HSl.out _ h
              have HNx := Lib.hid (rowL_next (word := X2 ++ 32 :: statW) (ns := nums ++ sl) (i := j) (by omega))
              have hr := rowL_len (word := X2 ++ 32 :: statW) (ns := (nums ++ sl).take j) (fun y hy => by
                rcases List.mem_append.1 (List.mem_of_mem_take hy) with h | h
                · exact HNum.out _ h
                · exact HSl.out _ h)
              rw [List.length_take, List.length_append] at hr
              have e5 : (32 :: statW).length = 5 := rfl
              generalize (nums ++ sl).getD j 0 = z at *
              have hz21 := itoa_len hzb
              have hs2 : ¬ 9223372036854775807 < (rowL (X2 ++ 32 :: statW) ((nums ++ sl).take j)).length + 1 := by omega
              have hs3 : ¬ 9223372036854775807 < (rowL (X2 ++ 32 :: statW) ((nums ++ sl).take j)).length + 1 + (Lib.itoa z).length := by omega
              clear hnsl hr e5
              go_wp2_with fail
              refine (itoa_any z hzb wr (HT.out.below (below_chain L5.out HBel.out))).mono ?_
              rintro ev w6 ⟨rfl, hb6⟩
              have HB6 := Lib.hid (below_chain HBel.out hb6)
              clear hb6
              go_wp2
              go_roundg (gk - 1)
              case measure => omega
              case rel =>
                refine ⟨j + 1, by go_num, by have := HN.out; have := HNl.out; have := hsl'.out; simp; omega, ?_, HB6.out⟩
                rw [HNx.out]
                have e1 : (⟨(rowL (X2 ++ 32 :: statW) ((nums ++ sl).take j)).toArray⟩ : ByteArray) ++ ⟨#[32]⟩ = ⟨(rowL (X2 ++ 32 :: statW) ((nums ++ sl).take j) ++ [32]).toArray⟩ := cat_list _ _
                rw [e1, cat_list, List.append_assoc]
            · obtain rfl : j = N := by omega
              go_wp2_with fail
              go_meet
              refine ⟨_, rfl, ?_, K5.out.below HBel.out K5.out.lt, below_chain L5.out HBel.out, Nat.le_refl _, ?_⟩
              · rw [List.take_of_length_le (by have := HN.out; have := HNl.out; have := hsl'.out; simp; omega)]
                unfold statL
                rw [HSm.out, if_pos rfl]
                simp [rowL]
              · exact Nat.lt_of_lt_of_le K5.out.lt HBel.out.size
      case rest =>
      obtain ⟨s3, rfl, h3⟩ := hcut
      have hl3 : (X2 ++ statL nums sl).length ≤ 5000000 := by
        rw [List.length_append]
        unfold statL
        split
        · have hr := rowL_len (word := 32 :: statW) (ns := nums ++ sl) (fun y hy => by
            rcases List.mem_append.1 hy with h | h
            · exact HNum.out _ h
            · exact HSl.out _ h)
          have e5 : (32 :: statW).length = 5 := rfl
          have := HNl.out
          have := hsl'.out
          rw [List.length_append] at hr
          omega
        · simp; omega
      generalize hX3 : X2 ++ statL nums sl = X3 at *
      have HX3 := Lib.hid hX3
      have H3 := Lib.hid h3
      have HTl := Lib.hid (show tellL e sn [v0, v1, v2, v3, v4, v5, v6, v7, v8] sl bs = X3 ++ (if bs = [] then [] else 32 :: bytesW ++ 32 :: hexL bs) by
        unfold tellL
        rw [HX1.out, HX2.out, ← HNs.out, hX3])
      clear hX3 h3 H4 B4 B5 L4 hl1 hl2
      obtain rfl := H3.out.1
      have k1 := H3.out.2.1
      rw [HCs.out] at k1
      unfold taleV at k1
      have k1 := k1.cell (i := 1) rfl
      by_cases hbn0 : bn = 0
      · have hb0 : bs = [] := List.eq_nil_of_length_eq_zero (by have := hbl.out; omega)
        have d0 : ((bn : Int) == 0) = true := by simp; omega
        have HB0 := Lib.hid hb0
        clear hb0
        go_wp2
        go_ret
        refine ⟨?_, H3.out.2.2.1⟩
        rw [HTl.out, if_pos HB0.out, List.append_nil]
        rfl
      · have hb0 : bs ≠ [] := fun h => by have := hbl.out; rw [h] at this; simp at this; omega
        have d0 : ((bn : Int) == 0) = false := by simp; omega
        have HB0 := Lib.hid hb0
        clear hb0
        have hs1 : ¬ 9223372036854775807 < X3.length + 7 := by omega
        have ecat : (⟨X3.toArray⟩ : ByteArray) ++ ⟨#[32, 98, 121, 116, 101, 115, 32]⟩ = ⟨(X3 ++ (32 :: bytesW ++ [32])).toArray⟩ := cat_list _ _
        obtain ⟨Y, hY⟩ : ∃ Y, Y = X3 ++ (32 :: bytesW ++ [32]) := ⟨_, rfl⟩
        have hYl : Y.length ≤ 5000010 := by rw [hY, List.length_append]; have e5 : (32 :: bytesW ++ [32]).length = 7 := rfl; omega
        rw [← hY] at ecat
        have HY := Lib.hid hY
        have hcv := fun (W : World) (s : ByteArray) => Lib.run_convert_string_bytes (P := Tryz.prog) W 9 24 5 s Tryz.underlying9 Tryz.underlying24 Tryz.underlying5
        clear hY
        go_wp2
        obtain ⟨w8, hw8⟩ : ∃ w8, w8 = Lib.bytesWorld wc 5 ⟨Y.toArray⟩ := ⟨_, rfl⟩
        have L8 := Lib.hid (show Below wc.heap.size wc w8 by rw [hw8]; exact bytesW_below _ _ _)
        have esz : (⟨Y.toArray⟩ : ByteArray).size = Y.length := by show Y.toArray.size = Y.length; simp
        have R8 := RowZ.made wc 5 ⟨Y.toArray⟩ w.heap.size H3.out.2.2.1.size (by rw [esz]; unfold maxLen; omega)
        rw [← hw8, esz] at R8
        rw [← hw8]
        have R8 := Lib.hid (show RowZ w8 w.heap.size 5 (.slice (some ⟨wc.heap.size, 0, none⟩) Y.length (grownCap wc Y.length 0 5)) Y.length (u8s Y) from R8)
        have K8 := Lib.hid (H3.out.2.1.below L8.out H3.out.2.2.2.2)
        have M8 := Lib.hid (below_chain H3.out.2.2.1 L8.out)
        clear hw8 ecat esz hcv k1
        generalize grownCap wc Y.length 0 5 = c8 at *
        go_loopg [9, 10] bn (BtI bs Y w.heap.size cs bn w)
        case atStart => exact ⟨0, Y.length, rfl, by omega, by simp [hexL], by simpa [hexL] using R8.out, K8.out, M8.out⟩
        case round =>
          obtain ⟨i, m9, rfl, hi, hm9, ho, hk, hbel⟩ := hrel
          have HM9 := Lib.hid hm9
          clear hm9
          have HO := Lib.hid ho
          have HBel := Lib.hid hbel
          have HK := Lib.hid hk
          rw [HCs.out] at hk
          unfold taleV at hk
          have k1 := hk.cell (i := 1) (v := .slice BA bn bc) rfl
          clear ho hbel hk
          obtain ⟨g9, c9, hv9, hc9, hb9, hlt9⟩ := HO.out.slice
          subst hv9
          by_cases hlt : i < bn
          · have hltI : (i : Int) < (bn : Int) := by omega
            obtain ⟨b, off, rfl, hbw, hx⟩ := HBB.out.cell HBel.out hlt
            have hlen := hbl.out
            have hzb := HBy.out (bs.getD i 0) (by rw [List.getD_eq_getElem?_getD, List.getElem?_eq_getElem (by omega)]; exact List.getElem_mem (by omega))
            have HNx := Lib.hid (hexL_next (bs := bs) (i := i) (by omega))
            have hxl : m9 ≤ 7500010 := by rw [HM9.out, List.length_append, hexL_len, List.length_take]; omega
            generalize bs.getD i 0 = z at *
            obtain ⟨zn, rfl⟩ : ∃ zn : Nat, z = zn := ⟨z.toNat, by omega⟩
            obtain ⟨q, hq⟩ : ∃ q, zn / 16 = q := ⟨_, rfl⟩
            obtain ⟨r, hr⟩ : ∃ r, zn % 16 = r := ⟨_, rfl⟩
            have hq16 : q < 16 := by omega
            have hr16 : r < 16 := by omega
            have hqI : (q : Int) < 16 := by omega
            have hrI : (r : Int) < 16 := by omega
            have e1 : (zn : Int) / 16 = (q : Int) := by omega
            have e2 : (zn : Int) % 16 = (r : Int) := by omega
            have e3 : IntKind.u8.wrap (q : Int) = (q : Int) := by rw [IntKind.wrap_u8]; omega
            have e4 : IntKind.u8.wrap (r : Int) = (r : Int) := by rw [IntKind.wrap_u8]; omega
            have e5 : (zn : Int).tmod 16 = (r : Int) := by rw [Int.tmod_eq_emod_of_nonneg (by omega)]; omega
            have e6 : (zn : Int).tdiv 16 = (q : Int) := by rw [Int.tdiv_eq_ediv_of_nonneg (by omega)]; omega
            rw [Int.toNat_natCast, hq, hr] at HNx
            clear hq hr hlen
            go_wp2
            refine wp_region_qs (fun _ w' => w'.cell? ⟨w.heap.size, 1, none⟩ = some (.slice (some ⟨b, off, none⟩) bn bc) ∧ w'.cell? ⟨b, off + i, none⟩ = some (.int .u8 (zn : Int))) [(0, some 1), (1, some 2), (2, some 2), (3, some 2), (4, some 2), (5, some 2), (6, some 2), (7, some 1), (8, some 2), (9, some 2), (10, some 2), (11, some 2), (12, some 2), (13, some 2), (14, some 1), (15, none), (16, none), (17, some 2)] (by kernel_rfl) (by kernel_rfl) (by kernel_rfl) (by kernel_rfl) (by kernel_rfl) (fun _ _ _ _ _ h => h) ⟨k1, hx⟩ ?_
            simp only [List.map_cons, List.map_nil, List.getD_cons_succ, List.getD_cons_zero]
            (repeat (first | (refine qs_now (v := ?_) (by rfl) ?_ ?_; rotate_left 1; (· (intro w' hS; go_simp; (try (simp only [↓IntWalk.iteOmega]; go_simp)); (try simp (disch := omega) only [IntWalk.i64_in]); try with_reducible rfl)); simp only [Act.put, List.setIfInBounds_toArray, List.set_cons_zero, List.set_cons_succ]) | (refine qs_run (v := ?_) (by rfl) ?_ ?_; rotate_left 1; (· (intro j w' hS; go_simp; (try (simp only [↓IntWalk.iteOmega]; go_simp)); (try simp (disch := omega) only [IntWalk.i64_in]); try with_reducible rfl)); simp only [Act.put, List.setIfInBounds_toArray, List.set_cons_zero, List.set_cons_succ]) | (refine qs_mid (v := ?_) (by rfl) ?_ ?_; rotate_left 1; (· (intro j w' hj1 hj2 hS; go_simp; (try (simp only [↓IntWalk.iteOmega]; go_simp)); (try simp (disch := omega) only [IntWalk.i64_in]); try with_reducible rfl)); simp only [Act.put, List.setIfInBounds_toArray, List.set_cons_zero, List.set_cons_succ]) | (refine qs_skip (by rfl) ?_; simp only [Act.put, List.setIfInBounds_toArray, List.set_cons_zero, List.set_cons_succ])))
            rw [hexD_get q hq16, hexD_get r hr16]
            refine qs_act ?_
            go_wp2
            refine ⟨⟨cell_al k1 _, cell_al hx _⟩, ?_⟩
            refine qs_act ?_
            obtain ⟨w2, hw2⟩ : ∃ w2, w2 = (wr.alloc (Obj.cells #[Value.int IntKind.u8 ↑(hexD q).toNat, Value.int IntKind.u8 ↑(hexD r).toNat] 5)).drew := ⟨_, rfl⟩
            have K2 := Lib.hid (show Blk w2 wr.heap.size 5 #[Value.int IntKind.u8 ↑(hexD q).toNat, Value.int IntKind.u8 ↑(hexD r).toNat] by rw [hw2]; exact (Blk.made _ _ _).drew)
            have L2 := Lib.hid (show Below wr.heap.size wr w2 by rw [hw2]; exact ((Below.refl _ _).alloc (Nat.le_refl _) _).drew)
            rw [← hw2]
            clear hw2
            have O2 := Lib.hid (HO.out.below L2.out)
            have B2 := Lib.hid (below_chain HBel.out L2.out)
            have T2 := Lib.hid (HK.out.below L2.out HK.out.lt)
            have X2c := Lib.hid (cell_low hx L2.out)
            refine app_z rfl (.tmp 107) (.tmp 122) 24 rfl w.heap.size 5 _ 1 Tryz.underlying24 infoByte rfl _ m9 _ rfl O2.out ⟨wr.heap.size, 0, none⟩ 2 2 [Value.int .u8 ((hexD q).toNat : Int), Value.int .u8 ((hexD r).toNat : Int)] rfl rfl (fun j y hy => by rw [Addr.add_mid, Nat.zero_add, K2.out.cellq]; simpa using hy) (by simp [Value.oneCell']) (by omega) (by omega) B2.out.size ?_
            intro g10 c10 w3 ho3 hg3 hor3
            have O3 := Lib.hid ho3
            have B3 := Lib.hid (B2.out.grown hg3 B2.out.size (fun k hk => O2.out.base_le k hk))
            have T3 := Lib.hid (T2.out.grown hg3 (fun h => O2.out.ne_blk T2.out (by decide) h.symm))
            have X3c := Lib.hid ((World.cell?_of_block (a := ⟨b, off + i, none⟩) (hg3.block b (by have := B2.out.size; omega) (fun h => by have := O2.out.base_le b h.symm; omega))).trans X2c.out)
            clear ho3 hg3 hor3
            have t1 := T3.out
            rw [HCs.out] at t1
            unfold taleV at t1
            have t2 := t1.cell (i := 1) (v := .slice (some ⟨b, off, none⟩) bn bc) rfl
            clear t1
            refine wpList_nil ?_
            refine ⟨⟨t2, X3c.out⟩, ?_⟩
            (repeat (first | (refine qs_now (v := ?_) (by rfl) ?_ ?_; rotate_left 1; (· (intro w' hS; go_simp; (try (simp only [↓IntWalk.iteOmega]; go_simp)); (try simp (disch := omega) only [IntWalk.i64_in]); try with_reducible rfl)); simp only [Act.put, List.setIfInBounds_toArray, List.set_cons_zero, List.set_cons_succ]) | (refine qs_run (v := ?_) (by rfl) ?_ ?_; rotate_left 1; (· (intro j w' hS; go_simp; (try (simp only [↓IntWalk.iteOmega]; go_simp)); (try simp (disch := omega) only [IntWalk.i64_in]); try with_reducible rfl)); simp only [Act.put, List.setIfInBounds_toArray, List.set_cons_zero, List.set_cons_succ]) | (refine qs_mid (v := ?_) (by rfl) ?_ ?_; rotate_left 1; (· (intro j w' hj1 hj2 hS; go_simp; (try (simp only [↓IntWalk.iteOmega]; go_simp)); (try simp (disch := omega) only [IntWalk.i64_in]); try with_reducible rfl)); simp only [Act.put, List.setIfInBounds_toArray, List.set_cons_zero, List.set_cons_succ]) | (refine qs_skip (by rfl) ?_; simp only [Act.put, List.setIfInBounds_toArray, List.set_cons_zero, List.set_cons_succ])))
            refine qs_nil ?_
            go_wp2
            go_roundg (gk - 1)
            case measure => omega
            case rel =>
              refine ⟨i + 1, m9 + 2, by go_num, by omega, ?_, ?_, T3.out, B3.out⟩
              · rw [HM9.out, HNx.out]; simp; omega
              · rw [HNx.out, ← List.append_assoc]
                unfold u8s
                rw [List.map_append]
                exact O3.out
          · obtain rfl : i = bn := by omega
            have he := conv_z HO.out
            go_wp2
            go_ret
            refine ⟨?_, HBel.out⟩
            rw [List.take_of_length_le (show bs.length ≤ i by have := hbl.out; omega)]
            rw [HTl.out, if_neg HB0.out, HY.out]
            simp
end Go.Proofs.YtfehgpjnlkgekaaGreatDoor

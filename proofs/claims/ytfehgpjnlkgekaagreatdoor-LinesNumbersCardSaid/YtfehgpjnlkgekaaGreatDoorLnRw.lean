/-
  the document's words, digit, hex, number: walked.
-/
import Derived.Test.YtfehgpjnlkgekaaGreatDoorLnStep
namespace Go.Proofs.YtfehgpjnlkgekaaGreatDoor
open Go.RowKit
set_option linter.unusedVariables false
set_option linter.unusedSimpArgs false

def strV (l : List UInt8) : Value := .string ⟨l.toArray⟩
def WdsI (l : List UInt8) (n : Nat) (w : World) (k : Nat) (ov av iv : Value) (wr : World) : Prop :=
  ∃ (i t : Nat) (ds : List (List UInt8)), iv = .int .i64 ((i : Nat) : Int) ∧ av = .int .i64 ((t : Nat) : Int) ∧ i + k = n + 1 ∧ ds.length ≤ i ∧ wr.ownsRow w.heap.size 9 1 ov ds.length (ds.map strV) ∧ Below w.heap.size w wr ∧
    ((i ≤ n ∧ t ≤ i ∧ wordsL l = ds ++ glue ((l.take i).drop t) (wordsL (l.drop i))) ∨ (i = n + 1 ∧ wordsL l = ds))
theorem sub_str (s : ByteArray) (l : List UInt8) (h : s = ⟨l.toArray⟩) (t i : Nat) : (s.extract t i) = ⟨((l.take i).drop t).toArray⟩ := by
  subst h
  apply ByteArray.ext
  simp [List.extract, List.drop_take]
theorem take_snoc8 (l : List UInt8) {i : Nat} (h : i < l.length) : l.take (i + 1) = l.take i ++ [l.getD i 0] := by
  rw [List.take_add_one, List.getD_eq_getElem?_getD, List.getElem?_eq_getElem h]
  simp
theorem drop_cons8 (l : List UInt8) {i : Nat} (h : i < l.length) : l.drop i = l.getD i 0 :: l.drop (i + 1) := by
  rw [List.drop_eq_getElem_cons h, List.getD_eq_getElem?_getD, List.getElem?_eq_getElem h]
  rfl
theorem infoStr : (Tryz.prog.info? 9).map (fun i => (i.zero, i.size, i.bytes)) = some (some (.string ⟨#[]⟩), 1, 16) := by kernel_rfl
theorem len_ba (s : ByteArray) : s.data.toList.length = s.size := by rw [Array.length_toList]; rfl
set_option maxRecDepth 100000 in
set_option maxHeartbeats 1600000 in
theorem rwords_any (s : ByteArray) (w : World) (hn : s.size ≤ 1048576) :
    Calls Tryz.prog 19 #[.string s] w fun e w' => ∃ v, e = .returned v ∧ w'.ownsRow w.heap.size 9 1 v (wordsL s.data.toList).length ((wordsL s.data.toList).map strV) ∧ Below w.heap.size w w' := by
  obtain ⟨l, hl⟩ : ∃ l, l = s.data.toList := ⟨_, rfl⟩
  have HLs := Lib.hid hl
  have HLn := Lib.hid (show l.length = s.size by rw [hl, len_ba])
  have HSub := Lib.hid (sub_str s l (by rw [hl]))
  rw [← hl]
  clear hl
  obtain ⟨n, hn2⟩ : ∃ n, n = s.size := ⟨_, rfl⟩
  go_enter Tryz.func19, Tryz.ntmps19
  go_wp2
  go_loopg [3, 4, 5] (s.size + 1) (WdsI l s.size w)
  case atStart => exact ⟨0, 0, [], rfl, rfl, by omega, by simp, World.ownsRow_nil _ _ _ _, Below.refl _ _, .inl ⟨by omega, by omega, by simp [glue_nil (words_ne l)]⟩⟩
  case round =>
    obtain ⟨i, t, ds, rfl, rfl, hik, hds, ho, hbel, hw⟩ := hrel
    have HBel := Lib.hid hbel
    have HO := Lib.hid ho
    have HW := Lib.hid hw
    clear hbel ho
    by_cases hle : i ≤ s.size
    · have hleI : (i : Int) ≤ (s.size : Int) := by omega
      rcases hw with ⟨_, hti, hw⟩ | ⟨h, _⟩
      · have HT := Lib.hid hw
        clear hw HW
        have k1 : i + gk ≤ s.size + 1 := by omega
        have k2 : s.size + 1 ≤ i + gk := by omega
        have HD := Lib.hid hds
        have hd : ds.length ≤ 2000000 := by omega
        clear hik hn2 hds
        obtain ⟨A3, c3, rfl, hc3⟩ := own_slice HO.out
        by_cases hin : i = s.size
        · have d0 : ((i : Int) == (s.size : Int)) = true := by simp [hin]
          have HI := Lib.hid hin
          have hi1 : i + 1 ≤ s.size + 1 := by omega
          clear hin
          go_wp2_with (at_builtin; refine heldW ?_)
          unfold HeldW
          refine app_src rfl (.tmp 22) (.tmp 27) 36 rfl w.heap.size 9 _ 1 16 Tryz.underlying36 infoStr rfl (by omega) _ ds.length _ rfl (own_lo8 HO.out ((Below.refl _ _).alloc (Nat.le_refl _) _)) _ 1 [Value.string (s.extract t i)] rfl (src8 _ _ _) (by simp [Value.oneCell']) (by omega) (by omega) (by have := HBel.out.size; simp; omega) ?_
          intro v2 w2 ho2 hg2 hor2
          have O2 := Lib.hid ho2
          have G2 := Lib.hid hg2
          clear ho2 hg2 hor2
          go_wp2
          have L2 := Lib.hid ((HBel.out.alloc HBel.out.size _).grown G2.out (by have := HBel.out.size; simp; omega) (fun k hk => (HO.out.lt k hk).1))
          go_roundg (gk - 1)
          case measure => omega
          case rel =>
            refine ⟨i + 1, i + 1, ds ++ [(l.take i).drop t], by go_num, by go_num, by omega, by have := HD.out; simp; omega, ?_, L2.out, .inr ⟨by have := HI.out; omega, ?_⟩⟩
            · rw [List.length_append, List.map_append, List.map_singleton]
              unfold strV
              rw [← HSub.out]
              exact O2.out
            · have e : l.drop i = [] := List.drop_eq_nil_of_le (by have := HLn.out; have := HI.out; omega)
              rw [HT.out, e]
              simp [wordsL, glue]
        · have hlt : i < s.size := by omega
          have hltI : (i : Int) < (s.size : Int) := by omega
          have d0 : ((i : Int) == (s.size : Int)) = false := beq_eq_false_iff_ne.2 (by omega)
          have g1 := ba_get s i hlt
          have HDc := Lib.hid (drop_cons8 l (i := i) (by have := HLn.out; omega))
          have HTk := Lib.hid (take_snoc8 l (i := i) (by have := HLn.out; omega))
          rw [← HLs.out] at g1
          clear hin
          generalize l.getD i 0 = c at *
          by_cases hc : c = 32
          · subst hc
            have d1 : ((((32 : UInt8).toNat : Nat) : Int) == 32) = true := by decide
            go_wp2_with (at_builtin; refine heldW ?_)
            unfold HeldW
            refine app_src rfl (.tmp 22) (.tmp 27) 36 rfl w.heap.size 9 _ 1 16 Tryz.underlying36 infoStr rfl (by omega) _ ds.length _ rfl (own_lo8 HO.out ((Below.refl _ _).alloc (Nat.le_refl _) _)) _ 1 [Value.string (s.extract t i)] rfl (src8 _ _ _) (by simp [Value.oneCell']) (by omega) (by omega) (by have := HBel.out.size; simp; omega) ?_
            intro v2 w2 ho2 hg2 hor2
            have O2 := Lib.hid ho2
            have G2 := Lib.hid hg2
            clear ho2 hg2 hor2
            go_wp2
            have L2 := Lib.hid ((HBel.out.alloc HBel.out.size _).grown G2.out (by have := HBel.out.size; simp; omega) (fun k hk => (HO.out.lt k hk).1))
            go_roundg (gk - 1)
            case measure => omega
            case rel =>
              refine ⟨i + 1, i + 1, ds ++ [(l.take i).drop t], by go_num, by go_num, by omega, by have := HD.out; simp; omega, ?_, L2.out, .inl ⟨by omega, by omega, ?_⟩⟩
              · rw [List.length_append, List.map_append, List.map_singleton]
                unfold strV
                rw [← HSub.out]
                exact O2.out
              · rw [HT.out, HDc.out, words_space, show (l.take (i + 1)).drop (i + 1) = [] from List.drop_eq_nil_of_le (by rw [List.length_take]; omega), glue_nil (words_ne _)]
                simp [glue]
          · have d1 : ((c.toNat : Int) == 32) = false := by
              have : c.toNat ≠ 32 := fun h => hc (by rw [← u8_back c, h]; rfl)
              simp; omega
            have HC := Lib.hid hc
            clear hc
            go_wp2
            go_roundg (gk - 1)
            case measure => omega
            case rel =>
              refine ⟨i + 1, t, ds, by go_num, rfl, by omega, by have := HD.out; omega, HO.out, HBel.out, .inl ⟨by omega, by omega, ?_⟩⟩
              rw [HT.out, HDc.out, words_other HC.out, glue_glue, HTk.out, List.drop_append_of_le_length (by rw [List.length_take]; have := HLn.out; omega)]
      · omega
    · rcases hw with ⟨h, _⟩ | ⟨hi, hw⟩
      · omega
      · have hgI : ¬ (i : Int) ≤ (s.size : Int) := by omega
        have HE := Lib.hid hw
        clear hw HW
        go_wp2
        go_ret
        exact ⟨_, rfl, by rw [HE.out]; exact HO.out, HBel.out⟩
end Go.Proofs.YtfehgpjnlkgekaaGreatDoor

/-
  maps: Snap, Drop, Back: walked.
-/
import Derived.Test.YtgjjdfhoakailaaGreatStM4
namespace Go.Proofs.YtgjjdfhoakailaaGreat
open Go.RowKit Go.Maps
set_option linter.unusedVariables false
set_option linter.unusedSimpArgs false

theorem oneC_info (f : MpF) : (Tryz.prog.info? 121).map (·.size) = some (oneC f).length := by rw [oneC_len]; exact infoOne
theorem oneC_one (f : MpF) : ∀ v ∈ oneC f, v.oneCell' = true := by
  intro v hv
  obtain ⟨u, _, h⟩ := List.mem_flatMap.1 hv
  exact slC_one _ v h
def lenIs (n : Nat) : List Value → Nat → Bool
  | [], j => Nat.beq j n
  | _ :: r, j => match Nat.ble j n with | true => lenIs n r (Nat.succ j) | false => false
theorem lenIs_eq {n : Nat} : ∀ (l : List Value) (j : Nat), lenIs n l j = true → j + l.length = n
  | [], j, h => by simpa using Nat.eq_of_beq_eq_true h
  | v :: r, j, h => by
    unfold lenIs at h
    split at h
    · have := lenIs_eq r _ h
      rw [List.length_cons]
      omega
    · cases h
theorem zero_one_len : (Value.agg Tryz.zeroCells121).cells.size = 17408 := by
  have h : lenIs 17408 Tryz.zeroCells121.toList 0 = true := by kernel_rfl
  have := lenIs_eq _ _ h
  rw [Nat.zero_add, Array.length_toList] at this
  exact this
theorem mapsC_rng {w : World} {mi n bs : Nat} {f : MpF} (h : Blk w mi 123 (mapsC n f bs).toArray) : w.rangeAt mi 1 (oneC f) := h.part _ _ (by rw [oneC_len]; exact mapsC_one n f bs)
def snapE (M : SnM) (id : Int) : Int := if id < 1 ∨ 1073741824 < id then 2 else if (aget M id).isSome then 7 else if 8 ≤ M.length then 14 else 0
def SnapPost (mi bs n : Nat) (f : MpF) (M : SnM) (id : Int) (w : World) (e : Ending) (w' : World) : Prop := e = .returned (.int .i64 (snapE M id)) ∧ Tch [bs] w w' ∧
  ((snapE M id ≠ 0 ∧ MapsIs w' mi bs n f M) ∨ (snapE M id = 0 ∧ ∃ g, MapsIs w' mi bs n f (aput M id (g, f)) ∧ w.heap.size ≤ g))
set_option maxRecDepth 100000 in
set_option maxHeartbeats 1000000 in
theorem snap_any {w : World} {mi bs n : Nat} {f : MpF} {M : SnM} (h : MapsIs w mi bs n f M) (id : Int) :
    Calls Tryz.prog 80 #[.pointer (some ⟨mi, 0, none⟩), .int .i64 id] w (SnapPost mi bs n f M id w) := by
  have H := Lib.hid h
  have c0 := h.s_cell
  clear h
  by_cases h1 : id < 1
  · have HE := Lib.hid (show snapE M id = 2 from if_pos (.inl h1))
    go_enter Tryz.func80, Tryz.ntmps80
    go_wp2_with (go_at_call 96; refine (known_any H.out).mono ?_; rintro e w2 ⟨rfl, rfl⟩)
    go_ret
    unfold SnapPost
    rw [HE.out]
    exact ⟨rfl, Tch.refl _ _, .inl ⟨by decide, H.out⟩⟩
  by_cases h2 : 1073741824 < id
  · have HE := Lib.hid (show snapE M id = 2 from if_pos (.inr h2))
    go_enter Tryz.func80, Tryz.ntmps80
    go_wp2_with (go_at_call 96; refine (known_any H.out).mono ?_; rintro e w2 ⟨rfl, rfl⟩)
    go_ret
    unfold SnapPost
    rw [HE.out]
    exact ⟨rfl, Tch.refl _ _, .inl ⟨by decide, H.out⟩⟩
  have hid : -9223372036854775808 ≤ id ∧ id ≤ 9223372036854775807 := by omega
  have HD := Lib.hid hid
  clear hid
  cases hq : aget M id with
  | some p =>
    have HE := Lib.hid (show snapE M id = 7 by unfold snapE; rw [if_neg (by omega), hq]; rfl)
    have hval : ((aget M id).map veP).getD (.pointer none) = .pointer (some ⟨p.1, 0, none⟩) := by rw [hq]; rfl
    have HV := Lib.hid hval
    clear hq hval
    go_enter Tryz.func80, Tryz.ntmps80
    go_wp2_with (first
      | (go_at_call 96; refine (known_any H.out).mono ?_; rintro e w2 ⟨rfl, rfl⟩)
      | ((with_reducible show wpList _ _ _ (_ :: _) _ _); refine wpl_mlook rfl 118 (.tmp 21) (.tmp 22) rfl keyed_int Tryz.underlying118 H.out.map rfl id rfl (Tryz.zeroValue119) (klI_inj id) (keyOf_kvI HD.out) ?_; rw [HV.out]))
    go_ret
    unfold SnapPost
    rw [HE.out]
    exact ⟨rfl, Tch.refl _ _, .inl ⟨by decide, H.out⟩⟩
  | none =>
    have HN := Lib.hid hq
    have hval : ((aget M id).map veP).getD (.pointer none) = .pointer none := by rw [hq]; rfl
    have HV := Lib.hid hval
    clear hq hval
    by_cases h8 : 8 ≤ M.length
    · have HE := Lib.hid (show snapE M id = 14 by unfold snapE; rw [if_neg (by omega), HN.out, if_neg (by simp), if_pos h8])
      have h8I : (8 : Int) ≤ (M.length : Int) := by omega
      go_enter Tryz.func80, Tryz.ntmps80
      go_wp2_with (first
        | (go_at_call 96; refine (known_any H.out).mono ?_; rintro e w2 ⟨rfl, rfl⟩)
        | ((with_reducible show wpList _ _ _ (_ :: _) _ _); refine wpl_mlook rfl 118 (.tmp 21) (.tmp 22) rfl keyed_int Tryz.underlying118 H.out.map rfl id rfl (Tryz.zeroValue119) (klI_inj id) (keyOf_kvI HD.out) ?_; rw [HV.out])
        | ((with_reducible show wpList _ _ _ (_ :: _) _ _); refine wpl_mlen rfl 118 (.tmp 29) rfl Tryz.underlying118 H.out.map rfl ?_))
      go_ret
      unfold SnapPost
      rw [HE.out]
      exact ⟨rfl, Tch.refl _ _, .inl ⟨by decide, H.out⟩⟩
    · have HE := Lib.hid (show snapE M id = 0 by unfold snapE; rw [if_neg (by omega), HN.out, if_neg (by simp), if_neg h8])
      have h8I : ¬ (8 : Int) ≤ (M.length : Int) := by omega
      have HM := Lib.hid (show M.length < maxLen by unfold maxLen; omega)
      go_enter Tryz.func80, Tryz.ntmps80
      go_upto_region 9 with (first
        | (go_at_call 96; refine (known_any H.out).mono ?_; rintro e w2 ⟨rfl, rfl⟩)
        | ((with_reducible show wpList _ _ _ (_ :: _) _ _); refine wpl_mlook rfl 118 (.tmp 21) (.tmp 22) rfl keyed_int Tryz.underlying118 H.out.map rfl id rfl (Tryz.zeroValue119) (klI_inj id) (keyOf_kvI HD.out) ?_; rw [HV.out])
        | ((with_reducible show wpList _ _ _ (_ :: _) _ _); refine wpl_mlen rfl 118 (.tmp 29) rfl Tryz.underlying118 H.out.map rfl ?_))
      go_upto_region 10 with (first
        | ((with_reducible show wpList _ _ _ (_ :: _) _ _); refine wpList_load_mid rfl 121 (.tmp 34) rfl mi 1 rfl (oneC f) _ (mapsC_rng H.out.blk) Tryz.underlying121 rfl (oneC_info f) ?_)
        | ((with_reducible show wpList _ _ _ (_ :: _) _ _); refine wpl_alloc rfl 121 rfl Tryz.zeroValue121 17408 zero_one_len ?_; intro w1 cs hk hc hg hz; have K := Lib.hid hk; have C := Lib.hid hc; have G := Lib.hid hg; have Z := Lib.hid hz; clear hk hc hg hz)
        | ((with_reducible show wpList _ _ _ (_ :: _) _ _); refine wpl_over rfl 121 (.tmp 5) (.tmp 35) rfl w.heap.size (oneC f) rfl rfl _ cs K.out (oneC_info f) (by rw [oneC_len, C.out]) (oneC_one f) ?_; intro w2 hk hg hz; have K2 := Lib.hid hk; have L2 := Lib.hid (bl_g (bl_n (Below.refl _ _) G.out) hg (Nat.le_refl _)); clear hk hg hz))
      have H2 := Lib.hid (H.out.below L2.out)
      have c2 := H2.out.s_cell
      go_wp2_with ((with_reducible show wpList _ _ _ (_ :: _) _ _); refine wpl_mput rfl 118 (.tmp 39) (.tmp 40) (.tmp 5) rfl keyed_int Tryz.underlying118 H2.out.map HM.out rfl id rfl (w.heap.size, f) rfl (klI_inj id) (keyOf_kvI HD.out) ?_; intro w3 hm hg; have M3 := Lib.hid hm; have G3 := Lib.hid hg; clear hm hg)
      go_ret
      unfold SnapPost
      rw [HE.out]
      have hT : Tch [bs] w2 w3 := Tch.grown G3.out (fun k hk => by injection hk with hk; subst hk; exact .inl (by simp))
      refine ⟨rfl, (Tch.below L2.out).trans hT, .inr ⟨rfl, w.heap.size, ⟨H2.out.blk.grown G3.out ?_, M3.out, fun p hp => ?_, H2.out.low, H2.out.high⟩, Nat.le_refl _⟩⟩
      · have := blk_ne_map H2.out.map H2.out.blk
        simp
        exact this
      · have hb : Blk w2 p.2.1 121 (oneC p.2.2).toArray := by
          rcases List.mem_cons.1 hp with e | hp
          · rw [e]; exact K2.out
          · exact H2.out.each p (List.mem_filter.1 hp).1
        refine hb.grown G3.out ?_
        have := blk_ne_map H2.out.map hb
        simp
        exact this
def dropE (M : SnM) (id : Int) : Int := if (aget M id).isSome then 0 else 13
def DropPost (mi bs n : Nat) (f : MpF) (M : SnM) (id : Int) (w : World) (e : Ending) (w' : World) : Prop := e = .returned (.int .i64 (dropE M id)) ∧ Tch [bs] w w' ∧ MapsIs w' mi bs n f (adel M id)
theorem drop_any {w : World} {mi bs n : Nat} {f : MpF} {M : SnM} (h : MapsIs w mi bs n f M) (id : Int) (hid : -9223372036854775808 ≤ id ∧ id ≤ 9223372036854775807) :
    Calls Tryz.prog 93 #[.pointer (some ⟨mi, 0, none⟩), .int .i64 id] w (DropPost mi bs n f M id w) := by
  have H := Lib.hid h
  have c0 := h.s_cell
  clear h
  have HD := Lib.hid hid
  clear hid
  cases hq : aget M id with
  | some p =>
    have HE := Lib.hid (show dropE M id = 0 by unfold dropE; rw [hq]; rfl)
    have hval : ((aget M id).map veP).getD (.pointer none) = .pointer (some ⟨p.1, 0, none⟩) := by rw [hq]; rfl
    have HV := Lib.hid hval
    clear hq hval
    go_enter Tryz.func93, Tryz.ntmps93
    go_wp2_with (first
      | (go_at_call 96; refine (known_any H.out).mono ?_; rintro e w2 ⟨rfl, rfl⟩)
      | ((with_reducible show wpList _ _ _ (_ :: _) _ _); refine wpl_mlook rfl 118 (.tmp 13) (.tmp 14) rfl keyed_int Tryz.underlying118 H.out.map rfl id rfl (Tryz.zeroValue119) (klI_inj id) (keyOf_kvI HD.out) ?_; rw [HV.out])
      | ((with_reducible show wpList _ _ _ (_ :: _) _ _); refine wpl_mdel rfl 118 (.tmp 20) (.tmp 21) rfl keyed_int Tryz.underlying118 H.out.map rfl id rfl (klI_inj id) (keyOf_kvI HD.out) ?_; intro w3 hm hg; have M3 := Lib.hid hm; have G3 := Lib.hid hg; clear hm hg))
    go_ret
    unfold DropPost
    rw [HE.out]
    have hT : Tch [bs] w w3 := Tch.grown G3.out (fun k hk => by injection hk with hk; subst hk; exact .inl (by simp))
    refine ⟨rfl, hT, ⟨H.out.blk.grown G3.out ?_, M3.out, fun p hp => ?_, H.out.low, H.out.high⟩⟩
    · have := blk_ne_map H.out.map H.out.blk
      simp
      exact this
    · have hb := H.out.each p (List.mem_filter.1 hp).1
      refine hb.grown G3.out ?_
      have := blk_ne_map H.out.map hb
      simp
      exact this
  | none =>
    have HE := Lib.hid (show dropE M id = 13 by unfold dropE; rw [hq]; rfl)
    have hval : ((aget M id).map veP).getD (.pointer none) = .pointer none := by rw [hq]; rfl
    have HV := Lib.hid hval
    have HN := Lib.hid hq
    clear hq hval
    go_enter Tryz.func93, Tryz.ntmps93
    go_wp2_with (first
      | (go_at_call 96; refine (known_any H.out).mono ?_; rintro e w2 ⟨rfl, rfl⟩)
      | ((with_reducible show wpList _ _ _ (_ :: _) _ _); refine wpl_mlook rfl 118 (.tmp 13) (.tmp 14) rfl keyed_int Tryz.underlying118 H.out.map rfl id rfl (Tryz.zeroValue119) (klI_inj id) (keyOf_kvI HD.out) ?_; rw [HV.out]))
    go_ret
    unfold DropPost
    rw [HE.out, adel_none HN.out]
    exact ⟨rfl, Tch.refl _ _, H.out⟩
def backF (f : MpF) (M : SnM) (id : Int) : MpF := match aget M id with | some p => p.2 | none => f
def BackPost (mi bs n : Nat) (f : MpF) (M : SnM) (id : Int) (w : World) (e : Ending) (w' : World) : Prop := e = .returned (.int .i64 (dropE M id)) ∧ Tch [mi] w w' ∧ MapsIs w' mi bs n (backF f M id) M
theorem back_maps {w : World} {mi bs n : Nat} {f : MpF} {M : SnM} (h : MapsIs w mi bs n f M) (id : Int) (hid : -9223372036854775808 ≤ id ∧ id ≤ 9223372036854775807) :
    Calls Tryz.prog 94 #[.pointer (some ⟨mi, 0, none⟩), .int .i64 id] w (BackPost mi bs n f M id w) := by
  have H := Lib.hid h
  have c0 := h.s_cell
  clear h
  have HD := Lib.hid hid
  clear hid
  cases hq : aget M id with
  | some p =>
    have HE := Lib.hid (show dropE M id = 0 by unfold dropE; rw [hq]; rfl)
    have HF := Lib.hid (show backF f M id = p.2 by unfold backF; rw [hq])
    have hval : ((aget M id).map veP).getD (.pointer none) = .pointer (some ⟨p.1, 0, none⟩) := by rw [hq]; rfl
    have HV := Lib.hid hval
    have HB := Lib.hid (show w.rangeAt p.1 0 (oneC p.2) by have := (H.out.each _ (aget_mem hq)).range; rwa [toArr] at this)
    clear hq hval
    go_enter Tryz.func94, Tryz.ntmps94
    go_wp2_with (first
      | (go_at_call 96; refine (known_any H.out).mono ?_; rintro e w2 ⟨rfl, rfl⟩)
      | ((with_reducible show wpList _ _ _ (_ :: _) _ _); refine wpl_mlook rfl 118 (.tmp 13) (.tmp 14) rfl keyed_int Tryz.underlying118 H.out.map rfl id rfl (Tryz.zeroValue119) (klI_inj id) (keyOf_kvI HD.out) ?_; rw [HV.out])
      | ((with_reducible show wpList _ _ _ (_ :: _) _ _); refine wpl_mlook rfl 118 (.tmp 21) (.tmp 22) rfl keyed_int Tryz.underlying118 H.out.map rfl id rfl (Tryz.zeroValue119) (klI_inj id) (keyOf_kvI HD.out) ?_; rw [HV.out])
      | ((with_reducible show wpList _ _ _ (_ :: _) _ _); refine wpList_load_mid rfl 121 (.tmp 24) rfl p.1 0 rfl (oneC p.2) _ HB.out Tryz.underlying121 rfl (oneC_info p.2) ?_)
      | ((with_reducible show wpList _ _ _ (_ :: _) _ _); refine wpl_put rfl 121 (.tmp 27) (.tmp 25) rfl mi 1 (oneC p.2) rfl rfl _ _ H.out.blk (oneC_info p.2) (by rw [List.size_toArray, mapsC_len, oneC_len]; omega) (oneC_one p.2) ?_; intro w3 hk hg hz; have K3 := Lib.hid hk; have G3 := Lib.hid hg; clear hk hg hz))
    go_ret
    unfold BackPost
    rw [HE.out, HF.out]
    have K := K3.out
    rw [mapsC_over] at K
    exact ⟨rfl, Tch.grown G3.out (fun k hk => by injection hk with hk; subst hk; exact .inl (by simp)), H.out.set K G3.out⟩
  | none =>
    have HE := Lib.hid (show dropE M id = 13 by unfold dropE; rw [hq]; rfl)
    have HF := Lib.hid (show backF f M id = f by unfold backF; rw [hq])
    have hval : ((aget M id).map veP).getD (.pointer none) = .pointer none := by rw [hq]; rfl
    have HV := Lib.hid hval
    clear hq hval
    go_enter Tryz.func94, Tryz.ntmps94
    go_wp2_with (first
      | (go_at_call 96; refine (known_any H.out).mono ?_; rintro e w2 ⟨rfl, rfl⟩)
      | ((with_reducible show wpList _ _ _ (_ :: _) _ _); refine wpl_mlook rfl 118 (.tmp 13) (.tmp 14) rfl keyed_int Tryz.underlying118 H.out.map rfl id rfl (Tryz.zeroValue119) (klI_inj id) (keyOf_kvI HD.out) ?_; rw [HV.out]))
    go_ret
    unfold BackPost
    rw [HE.out, HF.out]
    exact ⟨rfl, Tch.refl _ _, H.out⟩
end Go.Proofs.YtgjjdfhoakailaaGreat

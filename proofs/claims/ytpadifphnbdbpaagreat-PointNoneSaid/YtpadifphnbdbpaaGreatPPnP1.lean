/-
  what this claim needs of: PnP1, PnP2, PnP3, PnP4 (written by cut.py).
-/
import Derived.Test.YtpadifphnbdbpaaGreatPPnT1
namespace Go.Proofs.YtpadifphnbdbpaaGreat
open Go.RowKit Go.Maps Go.Sort Go.Shelf
set_option linter.unusedVariables false
set_option linter.unusedSimpArgs false
theorem pst_check {w : World} {si xi bx mi bs n : Nat} {E : ExM} {f : MpF} {M : SnM} (h : StIs w si xi bx mi bs n E f M) (hE : E.length ≤ 100000000) (hM : IdsOk M) (h0 : stItems n E f M = []) :
    Calls Tryz.prog 26 #[.pointer (some ⟨si, 0, none⟩)] w fun e w' => e = .returned (.int .i64 0) ∧ Below w.heap.size w w' := by
  have H := Lib.hid h
  have HE := Lib.hid hE
  have HM := Lib.hid hM
  have H0 := Lib.hid h0
  have c0 := h.c0
  clear h hE hM h0
  go_enter Tryz.func26, Tryz.ntmps26
  go_wp2_with (go_at_call 43; refine (st_there H.out).mono ?_; rintro e w1 ⟨rfl, rfl⟩)
  refine wp_region_qs (fun _ w' => w'.cell? ⟨si, 0, none⟩ = some (.int .i64 (n : Int))) [(0, some 2), (1, some 2), (2, some 2), (3, some 1), (4, some 1), (5, none), (6, none), (7, some 2), (8, some 2)] (by kernel_rfl) (by kernel_rfl) (by kernel_rfl) (by kernel_rfl) (by kernel_rfl) (fun _ _ _ _ _ h => h) c0 ?_
  simp only [List.map_cons, List.map_nil, List.getD_cons_succ, List.getD_cons_zero]
  (repeat (first | (refine qs_now (v := ?_) (by rfl) ?_ ?_; rotate_left 1; (· (intro w' hS; go_simp; (try (simp only [↓IntWalk.iteOmega]; go_simp)); (try simp (disch := omega) only [IntWalk.i64_in]); try with_reducible rfl)); simp only [Act.put, List.setIfInBounds_toArray, List.set_cons_zero, List.set_cons_succ]) | (refine qs_run (v := ?_) (by rfl) ?_ ?_; rotate_left 1; (· (intro j w' hS; go_simp; (try (simp only [↓IntWalk.iteOmega]; go_simp)); (try simp (disch := omega) only [IntWalk.i64_in]); try with_reducible rfl)); simp only [Act.put, List.setIfInBounds_toArray, List.set_cons_zero, List.set_cons_succ]) | (refine qs_mid (v := ?_) (by rfl) ?_ ?_; rotate_left 1; (· (intro j w' hj1 hj2 hS; go_simp; (try (simp only [↓IntWalk.iteOmega]; go_simp)); (try simp (disch := omega) only [IntWalk.i64_in]); try with_reducible rfl)); simp only [Act.put, List.setIfInBounds_toArray, List.set_cons_zero, List.set_cons_succ]) | (refine qs_skip (by rfl) ?_; simp only [Act.put, List.setIfInBounds_toArray, List.set_cons_zero, List.set_cons_succ])))
  refine qs_act ?_
  go_wp2_with (go_at_call 15; refine (st_items H.out.drew HE.out HM.out).mono ?_; rintro e w2 ⟨v, rfl, ho, hb⟩; rw [H0.out] at ho; obtain ⟨A2, c2, rfl, -⟩ := Src.of_own ho; have L2 := Lib.hid (below_chain (Below.refl _ _).drew hb); clear ho hb)
  have H2 := Lib.hid (H.out.below L2.out)
  refine ⟨H2.out.c0, ?_⟩
  (repeat (first | (refine qs_now (v := ?_) (by rfl) ?_ ?_; rotate_left 1; (· (intro w' hS; go_simp; (try (simp only [↓IntWalk.iteOmega]; go_simp)); (try simp (disch := omega) only [IntWalk.i64_in]); try with_reducible rfl)); simp only [Act.put, List.setIfInBounds_toArray, List.set_cons_zero, List.set_cons_succ]) | (refine qs_run (v := ?_) (by rfl) ?_ ?_; rotate_left 1; (· (intro j w' hS; go_simp; (try (simp only [↓IntWalk.iteOmega]; go_simp)); (try simp (disch := omega) only [IntWalk.i64_in]); try with_reducible rfl)); simp only [Act.put, List.setIfInBounds_toArray, List.set_cons_zero, List.set_cons_succ]) | (refine qs_mid (v := ?_) (by rfl) ?_ ?_; rotate_left 1; (· (intro j w' hj1 hj2 hS; go_simp; (try (simp only [↓IntWalk.iteOmega]; go_simp)); (try simp (disch := omega) only [IntWalk.i64_in]); try with_reducible rfl)); simp only [Act.put, List.setIfInBounds_toArray, List.set_cons_zero, List.set_cons_succ]) | (refine qs_skip (by rfl) ?_; simp only [Act.put, List.setIfInBounds_toArray, List.set_cons_zero, List.set_cons_succ])))
  refine qs_act ?_
  go_wp2_with (go_at_call 55; refine (makes_nil (n : Int) A2 c2).mono ?_; rintro e w3 ⟨rfl, hb⟩; have L3 := Lib.hid hb; clear hb)
  have H3 := Lib.hid (H2.out.below L3.out)
  refine ⟨H3.out.c0, ?_⟩
  (repeat (first | (refine qs_now (v := ?_) (by rfl) ?_ ?_; rotate_left 1; (· (intro w' hS; go_simp; (try (simp only [↓IntWalk.iteOmega]; go_simp)); (try simp (disch := omega) only [IntWalk.i64_in]); try with_reducible rfl)); simp only [Act.put, List.setIfInBounds_toArray, List.set_cons_zero, List.set_cons_succ]) | (refine qs_run (v := ?_) (by rfl) ?_ ?_; rotate_left 1; (· (intro j w' hS; go_simp; (try (simp only [↓IntWalk.iteOmega]; go_simp)); (try simp (disch := omega) only [IntWalk.i64_in]); try with_reducible rfl)); simp only [Act.put, List.setIfInBounds_toArray, List.set_cons_zero, List.set_cons_succ]) | (refine qs_mid (v := ?_) (by rfl) ?_ ?_; rotate_left 1; (· (intro j w' hj1 hj2 hS; go_simp; (try (simp only [↓IntWalk.iteOmega]; go_simp)); (try simp (disch := omega) only [IntWalk.i64_in]); try with_reducible rfl)); simp only [Act.put, List.setIfInBounds_toArray, List.set_cons_zero, List.set_cons_succ]) | (refine qs_skip (by rfl) ?_; simp only [Act.put, List.setIfInBounds_toArray, List.set_cons_zero, List.set_cons_succ])))
  refine qs_nil ?_
  go_wp2_with fail
  go_ret
  exact ⟨rfl, below_chain L2.out L3.out⟩
theorem stItems_nil (n : Nat) : stItems n [] zF [] = [] := by
  have h1 : xItems [] = [] := List.eq_nil_of_length_eq_zero (by rw [xItems_len]; rfl)
  have h2 : sIds ([] : SnM) = [] := List.eq_nil_of_length_eq_zero (by rw [sIds_len]; rfl)
  have h3 : slIs n (gAt zF [] 0) 0 = [] := by
    unfold slIs
    rw [List.flatMap_eq_nil_iff]
    intro u hu
    rfl
  unfold stItems mItems mSl
  rw [h1, h2]
  simp [h3]
theorem pt_made {w : World} {si xi bx mi bs n : Nat} (h : StIs w si xi bx mi bs n [] zF []) : Calls Tryz.prog 28 #[.pointer (some ⟨si, 0, none⟩)] w fun e w' => ∃ tr lf, e = .returned (.pointer (some ⟨tr, 0, none⟩)) ∧ TrIs w' tr lf ∧ Below w.heap.size w w' := by
  have H := Lib.hid h
  clear h
  go_enter Tryz.func28, Tryz.ntmps28
  go_wp2_with (first
    | (go_at_call 65; refine (tr_new _).mono ?_; rintro e w1 ⟨tr, lf, rfl, ht, _, _, hb⟩; have T1 := Lib.hid ht; have L1 := Lib.hid hb; clear ht hb)
    | (go_at_call 15; refine (st_items (H.out.below L1.out) (by simp) ⟨by simp, by simp⟩).mono ?_; rintro e w2 ⟨v, rfl, ho, hb⟩; rw [stItems_nil] at ho; obtain ⟨A2, c2, rfl, -⟩ := Src.of_own ho; have L2 := Lib.hid (below_chain L1.out hb); have T2 := Lib.hid (T1.out.below hb); clear ho hb))
  go_loopg [12] 0 (fun (k : Nat) iv wk => iv = .int .i64 0 ∧ wk = w2)
  · exact ⟨rfl, rfl⟩
  · obtain ⟨rfl, rfl⟩ := hrel
    go_wp2_with fail
    go_ret
    exact ⟨tr, lf, rfl, T2.out, L2.out⟩
theorem pt_read {w : World} {c kb d sb ob n : Nat} {L : Int → Sec} {N : Nat} (h : CcI w c kb d sb ob n L N) (at0 m : Nat) (ham : at0 + m ≤ n) (hm : m ≤ 1024) (hN : N + m ≤ 900000) :
    Calls Tryz.prog 48 #[.pointer (some ⟨c, 0, none⟩), .int .i64 (at0 : Int), .int .i64 (m : Int)] w (BrPost w c kb d sb ob n L N at0 m) := by
  have R := Lib.hid (bl_read h at0 m ham hm hN)
  clear h ham hm hN
  go_enter Tryz.func48, Tryz.ntmps48
  go_wp2_with (go_at_call 89; refine R.out.mono ?_; rintro e w1 ⟨v, rfl, ho, hC, hT⟩; have O1 := Lib.hid ho; have C1 := Lib.hid hC; have T1 := Lib.hid hT; clear ho hC hT)
  go_ret2
  exact ⟨v, rfl, O1.out, C1.out, T1.out⟩
end Go.Proofs.YtpadifphnbdbpaaGreat
namespace Go.Proofs.YtpadifphnbdbpaaGreat
open Go.RowKit Go.Maps
set_option linter.unusedVariables false
set_option linter.unusedSimpArgs false
def PgL (w : World) (k : Nat) (rv iv : Value) (wk : World) : Prop := (k = 1 ∧ iv = .int .i64 0 ∧ rv = .slice none 0 0 ∧ wk = w) ∨ (k = 0 ∧ iv = .int .i64 1 ∧ ∃ A c, rv = .slice A 1024 c ∧ wk.ownsRow w.heap.size 5 1 rv 1024 (bV ndRow) ∧ Below w.heap.size w wk)
set_option maxRecDepth 100000 in
theorem pt_pages {w : World} {b o c : Nat} (hr : w.rangeAt b o ndE.toList) (hb : b < w.heap.size) : Calls Tryz.prog 35 #[.slice (some ⟨b, o, none⟩) 1 c] w fun e w' => ∃ A c', e = .returned (.slice A 1024 c') ∧ w'.ownsRow w.heap.size 5 1 (.slice A 1024 c') 1024 (bV ndRow) ∧ Below w.heap.size w w' := by
  have HR := Lib.hid hr
  have HB := Lib.hid hb
  clear hr hb
  go_enter Tryz.func35, Tryz.ntmps35
  go_wp2_with fail
  go_loopg [3, 10] 1 (fun k rv iv wk => PgL w k rv iv wk)
  case atStart => exact .inl ⟨rfl, rfl, rfl, rfl⟩
  case round =>
    rcases hrel with ⟨hk, rfl, rfl, hw⟩ | ⟨hk, rfl, A, c', rfl, ho, hl⟩
    · have HK := Lib.hid hk
      obtain rfl := hw.symm
      clear hk
      go_wp2_with (first
        | (with_reducible refine wpl_valP (v := .agg ndE) (by kernel_rfl) (load_nd (x := .tmp 12) b o HR.out (by with_reducible rfl) (by kernel_rfl)) ?_; simp only [Act.put, List.setIfInBounds_toArray, List.set_cons_zero, List.set_cons_succ])
        | (refine wpl_alloc rfl 108 (by rfl) Tryz.zeroValue108 4 (by rfl) ?_; intro w1 cs1 hk hc hg hz; have B1 := Lib.hid hk; have C1 := Lib.hid hc; have L1 := Lib.hid (bl_n (Below.refl _ w) hg); clear hk hc hg hz; simp only [Act.put, List.setIfInBounds_toArray, List.set_cons_zero, List.set_cons_succ])
        | (refine wpl_over rfl 108 (.tmp 5) (.tmp 13) (by rfl) w.heap.size ndE.toList (by rfl) (by rfl) _ cs1 B1.out nd_info (by rw [C1.out]; rfl) nd_one ?_; intro w2 hb hg hz; have B2 := Lib.hid (show Blk w2 w.heap.size 108 ndE from hb); have L2 := Lib.hid (bl_g L1.out hg (Nat.le_refl _)); clear hb hg hz)
        | (refine wpl_load_blk rfl 108 (.tmp 5) (by rfl) w.heap.size (by rfl) 108 _ B2.out _ Tryz.underlying108 rfl 4 info_nd rfl ?_; simp only [Act.put, List.setIfInBounds_toArray, List.set_cons_zero, List.set_cons_succ])
        | (go_at_call 78; refine (nd_put _).mono ?_; rintro e w4 ⟨r, rfl, hb, hge, hl⟩; have R4 := Lib.hid hb; have L4 := Lib.hid (below_chain L2.out hl); clear hb hge hl)
        | (refine app_src rfl (.tmp 19) (.tmp 20) 78 (by rfl) w.heap.size 5 _ 1 1 Tryz.underlying78 infoByte (by rfl) (by omega) (.slice none 0 0) 0 [] (by rfl) (World.ownsRow_nil _ _ _ _) (.slice (some ⟨r, 0, none⟩) 1024 1024) 1024 (bV ndRow) (by rfl) (src_rd (rd_full R4.out ndRow_len)) (bV_one _) (by omega) (by omega) L4.out.size ?_; intro v5 w5 ho hg _; have O5 := Lib.hid ho; have G5 := Lib.hid hg; clear ho hg))
      obtain ⟨A5, c5, rfl, -⟩ := own_slice O5.out
      have L5 := Lib.hid (show Below w.heap.size w w5 from bl_n L4.out G5.out)
      go_roundg 0
      case measure => have := HK.out; omega
      case rel => exact .inr ⟨rfl, rfl, A5, c5, rfl, O5.out, L5.out⟩
    · have HO := Lib.hid ho
      have HL := Lib.hid hl
      clear ho hl
      go_wp2_with fail
      go_ret
      exact ⟨A, c', rfl, HO.out, HL.out⟩
end Go.Proofs.YtpadifphnbdbpaaGreat
namespace Go.Proofs.YtpadifphnbdbpaaGreat
open Go.RowKit Go.Maps
set_option linter.unusedVariables false
set_option linter.unusedSimpArgs false
theorem bsrc_rd {W : World} {A : Option Addr} {x : Sec} (h : BSrc W A 512 (secL x)) : RdI .u8 W A 512 x.1 := by
  obtain ⟨b, off, rfl, hr, cs, hb⟩ := h.rng
  refine ⟨x.2.1, fun _ => ⟨b, off, rfl, hb.lt, fun j hj => ?_⟩⟩
  refine hr j _ ?_
  unfold secL
  rw [List.getElem?_map, List.getD_eq_getElem?_getD]
  have : j < x.1.length := by rw [x.2.1]; exact hj
  rw [List.getElem?_eq_getElem this]
  rfl
structure HsI (w : World) (c kb d sb ob n : Nat) (L : Int → Sec) (N R G : Nat) (cs1 : Array Value) (i : Nat) (v0 v1 : Value) (wk : World) : Prop where
  res : Blk wk R 25 cs1
  arr : Blk wk G 100 #[v0, v1]
  cc : CcI wk c kb d sb ob n L (N + i)
  low : Tch [c, kb, sb, ob] w wk
  r0 : 1 ≤ i → ∃ A p, v0 = .slice A 512 p ∧ 512 ≤ p ∧ BSrc wk A 512 (secL (L 0))
  r1 : 2 ≤ i → ∃ A p, v1 = .slice A 512 p ∧ 512 ≤ p ∧ BSrc wk A 512 (secL (L 1))
def HsL (w : World) (c kb d sb ob n : Nat) (L : Int → Sec) (N R G : Nat) (cs1 : Array Value) (k : Nat) (iv : Value) (wk : World) : Prop := ∃ i v0 v1, iv = .int .i64 ((i : Nat) : Int) ∧ i + k = 2 ∧ HsI w c kb d sb ob n L N R G cs1 i v0 v1 wk
theorem secs1 (L : Int → Sec) (a : Nat) : secsL (secsAt L a 1) = secL (L (a : Int)) := by
  rw [secsAt_succ]
  simp [secsAt, secsL]
theorem bsrc_one {W : World} {base : Nat} {A : Option Addr} {p : Nat} {L : Int → Sec} {a : Nat} (ho : W.ownsRow base 5 1 (.slice A (512 * 1) p) (512 * 1) (secsL (secsAt L a 1))) : BSrc W A 512 (secL (L (a : Int))) := by
  have := BSrc.of_own ho (by omega)
  rwa [secs1] at this
section
variable {w W W3 W4 : World} {c kb d sb ob n N R G p : Nat} {L : Int → Sec} {cs1 : Array Value} {v0 v1 : Value} {A : Option Addr}
theorem HsI.step0 (I : HsI w c kb d sb ob n L N R G cs1 0 v0 v1 W) (hT : Tch [c, kb, sb, ob] W W3) (hC : CcI W3 c kb d sb ob n L (N + 0 + 1)) (hs : BSrc W3 A 512 (secL (L 0))) (hp : 512 ≤ p) (hb : Blk W4 G 100 #[.slice A 512 p, v1]) (hg : W3.grownBy W4 (some G)) (hlt : c < G ∧ kb < G ∧ d < G ∧ sb < G ∧ ob < G) (hw : w.heap.size ≤ G) (hRG : R ≠ G) (ha : Blk W3 G 100 #[v0, v1]) : HsI w c kb d sb ob n L N R G cs1 1 (.slice A 512 p) v1 W4 := by
  have hu : ∀ b cs, Blk W3 b 5 cs → b ≠ G := fun b cs hk => blk_ne_tyD hk ha (by decide)
  refine ⟨(I.res.cc I.cc hT (by decide)).grown hg (by simpa using hRG), hb, CcI.step hC (tch_g hg) hlt hu, (I.low.trans hT).fresh (tch_g hg) (fun i hi => by simp at hi; subst hi; exact .inr hw), fun _ => ⟨A, p, rfl, hp, hs.tch (tch_g hg) (fun b cs hk => by simpa using hu b cs hk)⟩, fun h => absurd h (by omega)⟩
theorem HsI.step1 {u : Value} (I : HsI w c kb d sb ob n L N R G cs1 1 v0 v1 W) (hT : Tch [c, kb, sb, ob] W W3) (hC : CcI W3 c kb d sb ob n L (N + 1 + 1)) (hs : BSrc W3 A 512 (secL (L 1))) (hp : 512 ≤ p) (hb : Blk W4 G 100 #[v0, .slice A 512 p]) (hg : W3.grownBy W4 (some G)) (hlt : c < G ∧ kb < G ∧ d < G ∧ sb < G ∧ ob < G) (hw : w.heap.size ≤ G) (hRG : R ≠ G) (ha : Blk W3 G 100 #[v0, v1]) : HsI w c kb d sb ob n L N R G cs1 2 v0 (.slice A 512 p) W4 := by
  have hu : ∀ b cs, Blk W3 b 5 cs → b ≠ G := fun b cs hk => blk_ne_tyD hk ha (by decide)
  obtain ⟨A0, p0, e0, hp0, hb0⟩ := I.r0 (by omega)
  refine ⟨(I.res.cc I.cc hT (by decide)).grown hg (by simpa using hRG), hb, CcI.step hC (tch_g hg) hlt hu, (I.low.trans hT).fresh (tch_g hg) (fun i hi => by simp at hi; subst hi; exact .inr hw), fun _ => ⟨A0, p0, e0, hp0, (I.cc.bsrc hb0 hT).tch (tch_g hg) (fun b cs hk => by simpa using hu b cs hk)⟩, fun _ => ⟨A, p, rfl, hp, hs.tch (tch_g hg) (fun b cs hk => by simpa using hu b cs hk)⟩⟩
theorem CcI.drew (h : CcI W c kb d sb ob n L N) : CcI W.drew c kb d sb ob n L N := h.below (Below.refl _ W).drew
theorem cc_over {t : TypeId} {cs : Array Value} (h : CcI W c kb d sb ob n L N) (hB : Blk W R t cs) (ht : 5 ≠ t) (hg : W.grownBy W3 (some R)) (hlt : c < R ∧ kb < R ∧ d < R ∧ sb < R ∧ ob < R) : CcI W3 c kb d sb ob n L N :=
  CcI.step h (tch_g hg) hlt (fun b cs hk => blk_ne_tyD hk hB ht)
theorem info_sl1 : (Tryz.prog.info? 78).map (·.size) = some 1 := by kernel_rfl
end
def PickOk (L : Int → Sec) (Y : Hd) (z : Int) : Prop := ∀ (W : World) (A0 A1 : Option Addr) (p0 p1 : Nat), 512 ≤ p0 → 512 ≤ p1 → BSrc W A0 512 (secL (L 0)) → BSrc W A1 512 (secL (L 1)) →
  Calls Tryz.prog 49 #[.slice A0 512 p0, .slice A1 512 p1] W fun e W' => e = .returned (.tuple #[.agg (hdC Y).toArray, .int .i64 z]) ∧ Below W.heap.size W W'
theorem pick_none {L : Int → Sec} (h0 : NoFr (L 0).1) (h1 : NoFr (L 1).1) : PickOk L zHd (-1) := by
  intro W A0 A1 p0 p1 hp0 hp1 hb0 hb1
  obtain ⟨b0, o0, rfl, _⟩ := hb0.rng
  obtain ⟨b1, o1, rfl, _⟩ := hb1.rng
  exact hd_pick_none b0 o0 p0 b1 o1 p1 W (L 0).1 (L 1).1 (bsrc_rd hb0) (L 0).2.2 h0 hp0 (bsrc_rd hb1) (L 1).2.2 h1 hp1
theorem pick_two {L : Int → Sec} (h0 : NoFr (L 0).1) (h1 : (L 1).1 = hdRow smHd) : PickOk L smHd 1 := by
  intro W A0 A1 p0 p1 hp0 hp1 hb0 hb1
  obtain ⟨b0, o0, rfl, _⟩ := hb0.rng
  obtain ⟨b1, o1, rfl, _⟩ := hb1.rng
  exact hd_pick_two b0 o0 p0 b1 o1 p1 W (L 0).1 (bsrc_rd hb0) (L 0).2.2 h0 hp0 (h1 ▸ bsrc_rd hb1) hp1
def HdsPost (w : World) (c kb d sb ob n : Nat) (L : Int → Sec) (N : Nat) (Y : Hd) (x : Int) (e : Ending) (w' : World) : Prop := e = .returned (.tuple #[.agg (hdC Y).toArray, .int .i64 x]) ∧ CcI w' c kb d sb ob n L (N + 2) ∧ Tch [c, kb, sb, ob] w w'
set_option maxRecDepth 100000 in
set_option maxHeartbeats 1000000 in
theorem pt_heads {w : World} {c kb d sb ob n : Nat} {L : Int → Sec} {N : Nat} (h : CcI w c kb d sb ob n L N) (hn : 2 ≤ n) (hN : N ≤ 800000) (Y : Hd) (z x : Int) (hP : PickOk L Y z) (hz : (z = -1 ∧ Y = zHd ∧ x = 10) ∨ (z = 1 ∧ Y = smHd ∧ x = 0 ∧ secsI smHd.geo ≤ n)) :
    Calls Tryz.prog 21 #[.pointer (some ⟨c, 0, none⟩)] w (HdsPost w c kb d sb ob n L N Y x) := by
  have H := Lib.hid h
  have HN := Lib.hid (And.intro hn hN)
  have HP := Lib.hid hP
  have HZ := Lib.hid hz
  clear h hn hN hP hz
  go_enter Tryz.func21, Tryz.ntmps21
  go_wp2_with (first
    | (refine wpl_alloc_zero rfl 100 (by rfl) (z := .agg #[.slice none 0 0, .slice none 0 0]) Tryz.zeroValue100 ?_; intro w2 hk hg hz; have B2 := Lib.hid (show Blk w2 w1.heap.size 100 #[.slice none 0 0, .slice none 0 0] from hk); have L2 := Lib.hid (bl_n L1.out hg); have K2 := Lib.hid (K1.out.grown hg (by simp)); clear hk hg hz; simp only [Act.put, List.setIfInBounds_toArray, List.set_cons_zero, List.set_cons_succ])
    | (refine wpl_alloc rfl 25 (by rfl) Tryz.zeroValue25 9 (by rfl) ?_; intro w1 cs1 hk hc hg hz; have K1 := Lib.hid hk; have C1 := Lib.hid hc; have L1 := Lib.hid (bl_n (Below.refl _ _) hg); clear hk hc hg hz; simp only [Act.put, List.setIfInBounds_toArray, List.set_cons_zero, List.set_cons_succ]))
  obtain ⟨G, hG⟩ : ∃ G, G = w1.heap.size := ⟨_, rfl⟩
  obtain ⟨R, hR⟩ : ∃ R, R = w.heap.size := ⟨_, rfl⟩
  have HR := Lib.hid (show R < G ∧ w.heap.size ≤ R by have := K1.out.lt; omega)
  have I2 := Lib.hid (show HsI w c kb d sb ob n L N R G cs1 0 (.slice none 0 0) (.slice none 0 0) w2 from ⟨by rw [hR]; exact K2.out, by rw [hG]; exact B2.out, H.out.below L2.out, Tch.below L2.out, fun h => absurd h (by omega), fun h => absurd h (by omega)⟩)
  rw [← hG, ← hR]
  clear hG hR K2 B2 L2 K1 L1
  go_loopg [10] 2 (fun k iv wk => HsL w c kb d sb ob n L N R G cs1 k iv wk)
  case atStart => exact ⟨0, _, _, rfl, rfl, I2.out⟩
  case round =>
    obtain ⟨i, v0, v1, rfl, hik, hI⟩ := hrel
    have I := Lib.hid hI
    have IK := Lib.hid hik
    clear hI hik I2
    have hi : i = 0 ∨ i = 1 ∨ i = 2 := by have := IK.out; omega
    rcases hi with rfl | rfl | rfl
    · obtain ⟨HT, hHT⟩ : ∃ x : Prop, x = True := ⟨_, rfl⟩
      clear hHT HT
      go_wp2_with (first
        | (go_at_call 48; refine (pt_read I.out.cc 0 1 (by have := HN.out; omega) (by omega) (by have := HN.out; omega)).mono ?_; rintro e w3 ⟨v, rfl, ho, hC, hT⟩; obtain ⟨A3, p3, rfl, hp3⟩ := own_slice ho; have S3 := Lib.hid (bsrc_one ho); have C3 := Lib.hid hC; have T3 := Lib.hid hT; have HP3 := Lib.hid hp3; have R3 := Lib.hid (I.out.arr.cc I.out.cc hT (by decide)); clear ho hC hT hp3)
        | (refine wpl_set rfl 78 (.tmp 25) (.tmp 24) (by rfl) G 0 (.slice A3 512 p3) (by rfl) (by rfl) _ _ R3.out info_sl1 (show 0 < 2 by omega) (by rfl) (by rfl) ?_; intro w4 hb hg hz; have B4 := Lib.hid (show Blk w4 G 100 #[.slice A3 512 p3, v1] from hb); have G4 := Lib.hid hg; clear hb hg hz; simp only [Act.put, List.setIfInBounds_toArray, List.set_cons_zero, List.set_cons_succ]))
      have hlt := H.out.lts
      have hrg := HR.out
      have I4 := Lib.hid (HsI.step0 I.out T3.out C3.out S3.out HP3.out B4.out G4.out (by omega) (by omega) (by omega) R3.out)
      clear hlt hrg
      go_roundg 1
      case measure => have := IK.out; omega
      case rel => exact ⟨1, _, _, rfl, rfl, I4.out⟩
    · obtain ⟨HT, hHT⟩ : ∃ x : Prop, x = True := ⟨_, rfl⟩
      clear hHT HT
      go_wp2_with (first
        | (go_at_call 48; refine (pt_read I.out.cc 1 1 (by have := HN.out; omega) (by omega) (by have := HN.out; omega)).mono ?_; rintro e w3 ⟨v, rfl, ho, hC, hT⟩; obtain ⟨A3, p3, rfl, hp3⟩ := own_slice ho; have S3 := Lib.hid (bsrc_one ho); have C3 := Lib.hid hC; have T3 := Lib.hid hT; have HP3 := Lib.hid hp3; have R3 := Lib.hid (I.out.arr.cc I.out.cc hT (by decide)); clear ho hC hT hp3)
        | (refine wpl_set rfl 78 (.tmp 25) (.tmp 24) (by rfl) G 1 (.slice A3 512 p3) (by rfl) (by rfl) _ _ R3.out info_sl1 (show 1 < 2 by omega) (by rfl) (by rfl) ?_; intro w4 hb hg hz; have B4 := Lib.hid (show Blk w4 G 100 #[v0, .slice A3 512 p3] from hb); have G4 := Lib.hid hg; clear hb hg hz; simp only [Act.put, List.setIfInBounds_toArray, List.set_cons_zero, List.set_cons_succ]))
      have hlt := H.out.lts
      have hrg := HR.out
      have I4 := Lib.hid (HsI.step1 (u := v0) I.out T3.out C3.out S3.out HP3.out B4.out G4.out (by omega) (by omega) (by omega) R3.out)
      clear hlt hrg
      go_roundg 0
      case measure => have := IK.out; omega
      case rel => exact ⟨2, _, _, rfl, rfl, I4.out⟩
    · obtain ⟨A0, p0, rfl, hp0, hb0⟩ := I.out.r0 (by omega)
      obtain ⟨A1, p1, rfl, hp1, hb1⟩ := I.out.r1 (by omega)
      have Q := Lib.hid (HP.out wr A0 A1 p0 p1 hp0 hp1 hb0 hb1)
      have e0 : wr.cell? ⟨G, 0, none⟩ = some (.slice A0 512 p0) := I.out.arr.cell rfl
      have e1 : wr.cell? ⟨G, 1, none⟩ = some (.slice A1 512 p1) := I.out.arr.cell rfl
      clear hp0 hp1 hb0 hb1
      go_upto_region 11 with (first
        | (go_at_call 49; refine Q.out.mono ?_; rintro e w5 ⟨rfl, hb⟩; have L5 := Lib.hid hb; clear hb)
        | (refine wpl_alloc rfl 25 (by rfl) Tryz.zeroValue25 9 (by rfl) ?_; intro w6 cs6 hk hc hg hz; have B6 := Lib.hid hk; have C6 := Lib.hid hc; have L6 := Lib.hid (bl_n L5.out hg); clear hk hc hg hz; simp only [Act.put, List.setIfInBounds_toArray, List.set_cons_zero, List.set_cons_succ])
        | (refine wpl_over rfl 25 (.tmp 8) (.tmp 33) (by rfl) w5.heap.size (hdC Y) (by rfl) (by rfl) _ cs6 B6.out (hdC_info Y) (by rw [C6.out]; rfl) (hdC_one Y) ?_; intro w7 hb hg hz; have B7 := Lib.hid hb; have L7 := Lib.hid (bl_g L6.out hg L5.out.size); clear hb hg hz))
      have CC7 := Lib.hid (I.out.cc.below L7.out)
      have RS7 := Lib.hid (I.out.res.below L7.out I.out.res.lt)
      have T7 := Lib.hid (I.out.low.trans (Tch.below L7.out))
      clear e0 e1 Q B6 C6 L5 L6 I L7
      generalize w5.heap.size = hb at *
      rcases HZ.out with ⟨rfl, rfl, rfl⟩ | ⟨rfl, rfl, rfl, hs⟩
      · refine wp_region_qs (fun _ w' => True) [(0, some 2), (1, some 2), (2, some 0), (3, some 1), (5, some 2), (6, some 1), (4, none), (7, none), (8, some 2), (9, some 2)] (by kernel_rfl) (by kernel_rfl) (by kernel_rfl) (by kernel_rfl) (by kernel_rfl) (fun _ _ _ _ _ h => h) trivial ?_
        simp only [List.map_cons, List.map_nil, List.getD_cons_succ, List.getD_cons_zero]
        (repeat (first | (refine qs_now (v := ?_) (by rfl) ?_ ?_; rotate_left 1; (· (intro w' hS; go_simp; (try (simp only [↓IntWalk.iteOmega]; go_simp)); (try simp (disch := omega) only [IntWalk.i64_in]); try with_reducible rfl)); simp only [Act.put, List.setIfInBounds_toArray, List.set_cons_zero, List.set_cons_succ]) | (refine qs_run (v := ?_) (by rfl) ?_ ?_; rotate_left 1; (· (intro j w' hS; go_simp; (try (simp only [↓IntWalk.iteOmega]; go_simp)); (try simp (disch := omega) only [IntWalk.i64_in]); try with_reducible rfl)); simp only [Act.put, List.setIfInBounds_toArray, List.set_cons_zero, List.set_cons_succ]) | (refine qs_mid (v := ?_) (by rfl) ?_ ?_; rotate_left 1; (· (intro j w' hj1 hj2 hS; go_simp; (try (simp only [↓IntWalk.iteOmega]; go_simp)); (try simp (disch := omega) only [IntWalk.i64_in]); try with_reducible rfl)); simp only [Act.put, List.setIfInBounds_toArray, List.set_cons_zero, List.set_cons_succ]) | (refine qs_skip (by rfl) ?_; simp only [Act.put, List.setIfInBounds_toArray, List.set_cons_zero, List.set_cons_succ])))
        refine qs_act ?_
        go_wp2_with fail
        refine ⟨trivial, ?_⟩
        (repeat (first | (refine qs_now (v := ?_) (by rfl) ?_ ?_; rotate_left 1; (· (intro w' hS; go_simp; (try (simp only [↓IntWalk.iteOmega]; go_simp)); (try simp (disch := omega) only [IntWalk.i64_in]); try with_reducible rfl)); simp only [Act.put, List.setIfInBounds_toArray, List.set_cons_zero, List.set_cons_succ]) | (refine qs_run (v := ?_) (by rfl) ?_ ?_; rotate_left 1; (· (intro j w' hS; go_simp; (try (simp only [↓IntWalk.iteOmega]; go_simp)); (try simp (disch := omega) only [IntWalk.i64_in]); try with_reducible rfl)); simp only [Act.put, List.setIfInBounds_toArray, List.set_cons_zero, List.set_cons_succ]) | (refine qs_mid (v := ?_) (by rfl) ?_ ?_; rotate_left 1; (· (intro j w' hj1 hj2 hS; go_simp; (try (simp only [↓IntWalk.iteOmega]; go_simp)); (try simp (disch := omega) only [IntWalk.i64_in]); try with_reducible rfl)); simp only [Act.put, List.setIfInBounds_toArray, List.set_cons_zero, List.set_cons_succ]) | (refine qs_skip (by rfl) ?_; simp only [Act.put, List.setIfInBounds_toArray, List.set_cons_zero, List.set_cons_succ])))
        refine qs_nil ?_
        go_wp2_with (refine wpl_over rfl 25 (.tmp 2) (.tmp 45) (by rfl) R (hdC zHd) (by rfl) (by rfl) _ cs1 RS7.out.drew (hdC_info zHd) (by rw [C1.out]; rfl) (hdC_one zHd) ?_; intro w8 hb hg hz; have B8 := Lib.hid hb; have G8 := Lib.hid hg; clear hb hg hz; simp only [Act.put, List.setIfInBounds_toArray, List.set_cons_zero, List.set_cons_succ])
        have hlt := H.out.lts
        have hrg := HR.out
        have CC8 := cc_over CC7.out.drew RS7.out.drew (by decide) G8.out (by omega)
        (try simp only [Exit.inBlock, Exit.then])
        refine bodyPost_ret (results_blk_tmp rfl _ R rfl _ _ B8.out _ Tryz.underlying25 rfl 9 (hdC_info zHd) rfl) rfl ?_
        exact ⟨rfl, CC8, (T7.out.trans (Tch.below (Below.refl _ w7).drew)).fresh (tch_g G8.out) (fun i hi => by simp at hi; subst hi; exact .inr hrg.2)⟩
      · have hs2 : (362 : Int) ≤ (n : Int) := hs
        have HS2 := Lib.hid hs2
        clear hs hs2
        refine wp_region_qs (fun _ w' => w'.rangeAt hb 0 (geC smHd.geo)) [(0, some 2), (1, some 2), (2, some 0), (3, some 1), (5, some 2), (6, some 1), (4, none), (7, none), (8, some 2), (9, some 2)] (by kernel_rfl) (by kernel_rfl) (by kernel_rfl) (by kernel_rfl) (by kernel_rfl) (fun _ _ _ _ _ h => h) (B7.out.part 0 (geC smHd.geo) rfl) ?_
        simp only [List.map_cons, List.map_nil, List.getD_cons_succ, List.getD_cons_zero]
        (repeat (first | ((first | (refine qs_row (by rfl) 23 (.tmp 40) (by with_reducible rfl) (hb) 0 (by rfl) (geC smHd.geo) _ (fun j w h1 h2 hS => hS) Tryz.underlying23 rfl (geC_info _) ?_)); simp only [Act.put, List.setIfInBounds_toArray, List.set_cons_zero, List.set_cons_succ]) | (refine qs_now (v := ?_) (by rfl) ?_ ?_; rotate_left 1; (· (intro w' hS; go_simp; (try (simp only [↓IntWalk.iteOmega]; go_simp)); (try simp (disch := omega) only [IntWalk.i64_in]); try with_reducible rfl)); simp only [Act.put, List.setIfInBounds_toArray, List.set_cons_zero, List.set_cons_succ]) | (refine qs_run (v := ?_) (by rfl) ?_ ?_; rotate_left 1; (· (intro j w' hS; go_simp; (try (simp only [↓IntWalk.iteOmega]; go_simp)); (try simp (disch := omega) only [IntWalk.i64_in]); try with_reducible rfl)); simp only [Act.put, List.setIfInBounds_toArray, List.set_cons_zero, List.set_cons_succ]) | (refine qs_mid (v := ?_) (by rfl) ?_ ?_; rotate_left 1; (· (intro j w' hj1 hj2 hS; go_simp; (try (simp only [↓IntWalk.iteOmega]; go_simp)); (try simp (disch := omega) only [IntWalk.i64_in]); try with_reducible rfl)); simp only [Act.put, List.setIfInBounds_toArray, List.set_cons_zero, List.set_cons_succ]) | (refine qs_skip (by rfl) ?_; simp only [Act.put, List.setIfInBounds_toArray, List.set_cons_zero, List.set_cons_succ])))
        refine qs_act ?_
        go_wp2_with (go_at_call 20; refine (ci_sectors CC7.out.drew).mono ?_; rintro e w8 ⟨rfl, rfl⟩)
        refine ⟨B7.out.drew.part 0 (geC smHd.geo) rfl, ?_⟩
        (repeat (first | ((first | (refine qs_row (by rfl) 23 (.tmp 40) (by with_reducible rfl) (hb) 0 (by rfl) (geC smHd.geo) _ (fun j w h1 h2 hS => hS) Tryz.underlying23 rfl (geC_info _) ?_)); simp only [Act.put, List.setIfInBounds_toArray, List.set_cons_zero, List.set_cons_succ]) | (refine qs_now (v := ?_) (by rfl) ?_ ?_; rotate_left 1; (· (intro w' hS; go_simp; (try (simp only [↓IntWalk.iteOmega]; go_simp)); (try simp (disch := omega) only [IntWalk.i64_in]); try with_reducible rfl)); simp only [Act.put, List.setIfInBounds_toArray, List.set_cons_zero, List.set_cons_succ]) | (refine qs_run (v := ?_) (by rfl) ?_ ?_; rotate_left 1; (· (intro j w' hS; go_simp; (try (simp only [↓IntWalk.iteOmega]; go_simp)); (try simp (disch := omega) only [IntWalk.i64_in]); try with_reducible rfl)); simp only [Act.put, List.setIfInBounds_toArray, List.set_cons_zero, List.set_cons_succ]) | (refine qs_mid (v := ?_) (by rfl) ?_ ?_; rotate_left 1; (· (intro j w' hj1 hj2 hS; go_simp; (try (simp only [↓IntWalk.iteOmega]; go_simp)); (try simp (disch := omega) only [IntWalk.i64_in]); try with_reducible rfl)); simp only [Act.put, List.setIfInBounds_toArray, List.set_cons_zero, List.set_cons_succ]) | (refine qs_skip (by rfl) ?_; simp only [Act.put, List.setIfInBounds_toArray, List.set_cons_zero, List.set_cons_succ])))
        refine qs_act ?_
        go_wp2_with (go_at_call 14; refine (secs_any smHd_ok.1.geB).mono ?_; rintro e w8 ⟨rfl, hl⟩; have L8 := Lib.hid (show Below w7.heap.size w7 w8 from below_chain (Below.refl w7.heap.size w7).drew hl); clear hl)
        have B8 := Lib.hid (B7.out.below L8.out B7.out.lt)
        refine ⟨B8.out.part 0 (geC smHd.geo) rfl, ?_⟩
        rw [show secsG smHd.geo = 362 from by unfold secsG; rw [if_pos smHd_ok.1]; rfl]
        have hs3 := HS2.out
        (repeat (first | (refine qs_now (v := ?_) (by rfl) ?_ ?_; rotate_left 1; (· (intro w' hS; go_simp; (try (simp only [↓IntWalk.iteOmega]; go_simp)); (try simp (disch := omega) only [IntWalk.i64_in]); try with_reducible rfl)); simp only [Act.put, List.setIfInBounds_toArray, List.set_cons_zero, List.set_cons_succ]) | (refine qs_run (v := ?_) (by rfl) ?_ ?_; rotate_left 1; (· (intro j w' hS; go_simp; (try (simp only [↓IntWalk.iteOmega]; go_simp)); (try simp (disch := omega) only [IntWalk.i64_in]); try with_reducible rfl)); simp only [Act.put, List.setIfInBounds_toArray, List.set_cons_zero, List.set_cons_succ]) | (refine qs_mid (v := ?_) (by rfl) ?_ ?_; rotate_left 1; (· (intro j w' hj1 hj2 hS; go_simp; (try (simp only [↓IntWalk.iteOmega]; go_simp)); (try simp (disch := omega) only [IntWalk.i64_in]); try with_reducible rfl)); simp only [Act.put, List.setIfInBounds_toArray, List.set_cons_zero, List.set_cons_succ]) | (refine qs_skip (by rfl) ?_; simp only [Act.put, List.setIfInBounds_toArray, List.set_cons_zero, List.set_cons_succ])))
        refine qs_nil ?_
        have RS8 := Lib.hid (RS7.out.below L8.out RS7.out.lt)
        have CC8 := Lib.hid (CC7.out.below L8.out)
        trace_state
        go_wp2_with (first
          | (refine wpList_load_mid rfl 25 (.tmp 8) (by rfl) hb 0 (by rfl) (hdC smHd) _ (by have := B8.out.range; rwa [List.toList_toArray] at this) Tryz.underlying25 rfl (hdC_info smHd) ?_; simp only [Act.put, List.setIfInBounds_toArray, List.set_cons_zero, List.set_cons_succ])
          | (refine wpl_over rfl 25 (.tmp 2) (.tmp 46) (by rfl) R (hdC smHd) (by rfl) (by rfl) _ cs1 RS8.out (hdC_info smHd) (by rw [C1.out]; rfl) (hdC_one smHd) ?_; intro w9 hb hg hz; have B9 := Lib.hid hb; have G9 := Lib.hid hg; clear hb hg hz; simp only [Act.put, List.setIfInBounds_toArray, List.set_cons_zero, List.set_cons_succ]))
        have hlt := H.out.lts
        have hrg := HR.out
        have CC9 := cc_over CC8.out RS8.out (by decide) G9.out (by omega)
        (try simp only [Exit.inBlock, Exit.then])
        refine bodyPost_ret (results_blk_tmp rfl _ R rfl _ _ B9.out _ Tryz.underlying25 rfl 9 (hdC_info smHd) rfl) rfl ?_
        exact ⟨rfl, CC9, (T7.out.trans (Tch.below L8.out)).fresh (tch_g G9.out) (fun i hi => by simp at hi; subst hi; exact .inr hrg.2)⟩
end Go.Proofs.YtpadifphnbdbpaaGreat
namespace Go.Proofs.YtpadifphnbdbpaaGreat
open Go.RowKit Go.Maps
set_option linter.unusedVariables false
set_option linter.unusedSimpArgs false
def NdPost (w : World) (c kb d sb ob n : Nat) (L : Int → Sec) (N : Nat) (v : Value) (W : World) : Prop := ∃ b o p, v = .slice (some ⟨b, o, none⟩) 1 p ∧ W.rangeAt b o ndE.toList ∧ b < W.heap.size ∧ CcI W c kb d sb ob n L (N + 2) ∧ Tch [c, kb, sb, ob] w W
def NdL (w w1 : World) (c kb d sb ob n : Nat) (L : Int → Sec) (N : Nat) (k : Nat) (rv iv : Value) (wk : World) : Prop := (k = 1 ∧ iv = .int .i64 0 ∧ rv = .slice none 0 0 ∧ wk = w1) ∨ (k = 0 ∧ iv = .int .i64 1 ∧ NdPost w c kb d sb ob n L N rv wk)
theorem own_rng {w : World} {base : Nat} {e : TypeId} {p : Nat} {A : Option Addr} {xs : List Value} (h : w.ownsRow base e 4 (.slice A 1 p) 1 xs) : ∃ b, A = some ⟨b, 0, none⟩ ∧ w.rangeAt b 0 xs ∧ b < w.heap.size := by
  obtain ⟨A', p', e', hl, hc⟩ := Src.of_own h
  injection e' with e1
  subst e1
  obtain ⟨b, off, e2, hlt, hcell⟩ := hc (by omega)
  rcases h.2 with ⟨hx, _⟩ | ⟨g, cap, cur, hx, _⟩
  · injection hx with h1; rw [e2] at h1; cases h1
  · injection hx with h1
    rw [e2] at h1
    injection h1 with h1
    injection h1 with h3 h4
    subst h4
    exact ⟨b, e2, fun j v hv => hcell j v hv, hlt⟩
theorem rd_own {w : World} {base p : Nat} {A : Option Addr} {zs : List Int} (h : w.ownsRow base 5 1 (.slice A 1024 p) 1024 (bV zs)) : ∃ b o, A = some ⟨b, o, none⟩ ∧ RdI .u8 w (some ⟨b, o, none⟩) 1024 zs := by
  have hr : RdI .u8 w A 1024 zs := RdI.of_own h
  obtain ⟨b, o, e, _⟩ := hr.2 (by omega)
  subst e
  exact ⟨b, o, rfl, hr⟩
theorem sm_area : (2 + 2 * smHd.geo.jou + ((1 % 2 : Nat) : Int) * (2 * pagesI smHd.geo)) = 126 := rfl
set_option maxRecDepth 100000 in
set_option maxHeartbeats 1000000 in
theorem pt_nodes {w : World} {c kb d sb ob n : Nat} {L : Int → Sec} {N : Nat} (h : CcI w c kb d sb ob n L N) (hn : 362 ≤ n) (hN : N ≤ 800000) (hP : secsL (secsAt L 126 2) = bV ndRow) :
    Calls Tryz.prog 22 #[.pointer (some ⟨c, 0, none⟩), .agg (hdC smHd).toArray] w fun e w' => ∃ v, e = .returned (.tuple #[v, .int .i64 0]) ∧ NdPost w c kb d sb ob n L N v w' := by
  have H := Lib.hid h
  have HN := Lib.hid (And.intro hn hN)
  have HP := Lib.hid hP
  clear h hn hN hP
  go_enter Tryz.func22, Tryz.ntmps22
  go_wp2_with (refine wpl_box rfl 25 (.tmp 1) rfl _ rfl ?_; intro w1 hk hg hz; have K1 := Lib.hid (show Blk w1 w.heap.size 25 (hdC smHd).toArray from hk); have L1 := Lib.hid (bl_n (Below.refl _ w) hg); have p0 : w1.cell? ⟨w.heap.size, 6, none⟩ = some (.int .i64 1) := K1.out.cell rfl; have p1 : w1.cell? ⟨w.heap.size, 5, none⟩ = some (.int .i64 1) := K1.out.cell rfl; clear hk hg hz)
  go_loopg [6, 13] 1 (fun k rv iv wk => NdL w w1 c kb d sb ob n L N k rv iv wk)
  case atStart => exact .inl ⟨rfl, rfl, rfl, rfl⟩
  case round =>
    rcases hrel with ⟨hk, rfl, rfl, hw⟩ | ⟨hk, rfl, hP⟩
    · have HK := Lib.hid hk
      obtain rfl := hw.symm
      clear hk hw
      have C1 := Lib.hid (H.out.below L1.out)
      go_wp2_with (first
        | (refine wpList_load_mid rfl 23 (.tmp 18) (by rfl) w.heap.size 0 (by rfl) (geC smHd.geo) _ (K1.out.part 0 (geC smHd.geo) rfl) Tryz.underlying23 rfl (geC_info _) ?_; simp only [Act.put, List.setIfInBounds_toArray, List.set_cons_zero, List.set_cons_succ])
        | (go_at_call 34; refine (area_any smHd_ok.1.geB smHd_ok.1 1 (by omega)).mono ?_; rewrite [sm_area]; rintro e w2 ⟨rfl, hl⟩; have L2 := Lib.hid hl; have C2 := Lib.hid (C1.out.below hl); clear hl)
        | (go_at_call 48; refine (pt_read C2.out 126 2 (by have := HN.out; omega) (by omega) (by have := HN.out; omega)).mono ?_; rintro e w3 ⟨v, rfl, ho, hC, hT⟩; rw [HP.out] at ho; obtain ⟨A3, p3, rfl, hp3⟩ := own_slice ho; obtain ⟨b3, o3, rfl, hr3⟩ := rd_own ho; have R3 := Lib.hid hr3; have HP3 := Lib.hid hp3; have C3 := Lib.hid hC; have T3 := Lib.hid hT; clear ho hC hT hr3 hp3)
        | (go_at_call 50; refine (nd_get b3 o3 p3 _ R3.out HP3.out).mono ?_; rintro e w4 ⟨rfl, hl⟩; have L4 := Lib.hid hl; have C4 := Lib.hid (C3.out.below hl); clear hl)
        | (refine wpl_alloc rfl 108 (by rfl) Tryz.zeroValue108 4 (by rfl) ?_; intro w5 cs5 hk hc hg hz; have B5 := Lib.hid hk; have C5 := Lib.hid hc; have L5 := Lib.hid (bl_n L4.out hg); clear hk hc hg hz; simp only [Act.put, List.setIfInBounds_toArray, List.set_cons_zero, List.set_cons_succ])
        | (refine wpl_over rfl 108 (.tmp 10) (.tmp 35) (by rfl) w4.heap.size ndE.toList (by rfl) (by rfl) _ cs5 B5.out nd_info (by rw [C5.out]; rfl) nd_one ?_; intro w6 hb hg hz; have B6 := Lib.hid (show Blk w6 w4.heap.size 108 ndE from hb); have L6 := Lib.hid (bl_g L5.out hg L4.out.size); clear hb hg hz)
        | (refine wpl_load_blk rfl 108 (.tmp 10) (by rfl) w4.heap.size (by rfl) 108 _ B6.out _ Tryz.underlying108 rfl 4 info_nd rfl ?_; simp only [Act.put, List.setIfInBounds_toArray, List.set_cons_zero, List.set_cons_succ])
        | (refine wpl_lit1 rfl 64 108 (.tmp 40) (by rfl) ndE.toList (by rfl) Tryz.underlying64 info_nd3 (by rfl) (by decide) (by decide) ?_; intro w7 hb hg hz; have B7 := Lib.hid (show Blk w7 w6.heap.size 108 ndE from hb); have L7 := Lib.hid (bl_n L6.out hg); clear hb hg hz)
        | (refine app_src rfl (.tmp 39) (.tmp 41) 64 (by rfl) w7.heap.size 108 _ 4 80 Tryz.underlying64 info_nd3 (by rfl) (by omega) (.slice none 0 0) 0 [] (by rfl) (World.ownsRow_nil _ _ _ _) (.slice (some ⟨w6.heap.size, 0, none⟩) 1 1) 1 ndE.toList (by rfl) (src_nd B7.out) nd_one (by omega) (by omega) (Nat.le_refl _) ?_; intro v8 w8 ho hg _; have O8 := Lib.hid ho; have L8 := Lib.hid (bl_n L7.out hg); clear ho hg))
      obtain ⟨A8, p8, rfl, -⟩ := own_slice O8.out
      obtain ⟨b8, rfl, hr8, hb8⟩ := own_rng (e := 108) O8.out
      have hC8 : CcI w8 c kb d sb ob n L (N + 2) := C3.out.below L8.out
      have hT8 : Tch [c, kb, sb, ob] w w8 := ((Tch.below L1.out).trans (Tch.below L2.out)).trans (T3.out.trans (Tch.below L8.out))
      go_roundg 0
      case measure => have := HK.out; omega
      case rel => exact .inr ⟨rfl, rfl, b8, 0, p8, rfl, hr8, hb8, hC8, hT8⟩
    · obtain ⟨b, o, p, rfl, h1, h2, h3, h4⟩ := hP
      have P1 := Lib.hid (And.intro h1 (And.intro h2 (And.intro h3 h4)))
      clear h1 h2 h3 h4
      go_wp2_with fail
      go_ret2
      exact ⟨_, rfl, b, o, p, rfl, P1.out⟩
end Go.Proofs.YtpadifphnbdbpaaGreat

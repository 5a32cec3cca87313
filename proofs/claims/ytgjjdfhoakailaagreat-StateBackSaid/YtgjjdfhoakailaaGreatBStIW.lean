/-
  what this claim needs of: StIW (written by cut.py).
-/
import Derived.Test.YtgjjdfhoakailaaGreatBStI8
import Derived.Test.YtgjjdfhoakailaaGreatBStI9
namespace Go.Proofs.YtgjjdfhoakailaaGreat
open Go.RowKit Go.Maps Go.Sort Go.Shelf
set_option linter.unusedVariables false
set_option linter.unusedSimpArgs false

structure OfN (w : World) (bx mi bs ab sb ub n : Nat) (A : Option Addr) : Prop where
  d1 : ub ∉ [bx, mi, bs, ab]
  d2 : sb ∉ [bx, mi, bs, ab]
  d3 : ab ∉ [bx, mi, bs]
  off : Off n [bx, mi, bs, ab] A
  lo : ∀ k ∈ [bx, mi, bs, ab], w.heap.size ≤ k
structure OfFr (w w' : World) (ab sb ub si u n c : Nat) (A : Option Addr) (L : List It) (t : Int) : Prop where
  ka : Blk w' ab 3 #[.int .i64 t]
  kb : Blk w' sb 25 #[.pointer (some ⟨si, 0, none⟩)]
  ku : Blk w' ub 3 #[.int .i64 (u : Int)]
  row : Src w' 73 (.slice A n c) n (itsC L)
  low : Below w.heap.size w w'
section
variable {w w1 w2 : World} {bx mi bs ab sb ub si xi u n c : Nat} {A : Option Addr} {L : List It} {t : Int} {E : ExM} {f : MpF} {M : SnM} {T : List Nat}
theorem OfFr.tch (h : OfFr w w1 ab sb ub si u n c A L t) (N : OfN w bx mi bs ab sb ub n A) (hT : Tch T w1 w2) (hs : ∀ k ∈ T, k ∈ [bx, mi, bs]) : OfFr w w2 ab sb ub si u n c A L t := by
  have h4 : ∀ k ∈ T, k ∈ [bx, mi, bs, ab] := fun k hk => by
    have := hs k hk
    simp at this ⊢
    omega
  refine ⟨h.ka.tch hT (fun hk => N.d3 (hs _ hk)), h.kb.tch hT (fun hk => N.d2 (h4 _ hk)), h.ku.tch hT (fun hk => N.d1 (h4 _ hk)), h.row.tch hT (N.off.sub h4), ?_⟩
  exact ((Tch.below (T := T) h.low).fresh hT (fun k hk => .inr (N.lo k (h4 k hk)))).toBelow (Nat.le_refl _) (fun k hk => N.lo k (h4 k hk))
theorem OfFr.below (h : OfFr w w1 ab sb ub si u n c A L t) (hb : Below w1.heap.size w1 w2) : OfFr w w2 ab sb ub si u n c A L t :=
  ⟨h.ka.below hb h.ka.lt, h.kb.below hb h.kb.lt, h.ku.below hb h.ku.lt, h.row.below hb, below_chain h.low hb⟩
theorem tch_set (w : World) (b i : Nat) (v : Value) : Tch [b] w (w.setCell ⟨b, i, none⟩ v) := tch_own (grown_put w _ v)
theorem OfFr.at_ (h : OfFr w w1 ab sb ub si u n c A L t) (N : OfN w bx mi bs ab sb ub n A) (t' : Int) : OfFr w (w1.setCell ⟨ab, 0, none⟩ (.int .i64 t')) ab sb ub si u n c A L t' := by
  have hT := tch_set w1 ab 0 (.int .i64 t')
  have h4 : ∀ k ∈ [ab], k ∈ [bx, mi, bs, ab] := fun k hk => by simp at hk ⊢; omega
  refine ⟨h.ka.put 0 _, h.kb.tch hT (fun hk => N.d2 (h4 _ hk)), h.ku.tch hT (fun hk => N.d1 (h4 _ hk)), h.row.tch hT (N.off.sub h4), ?_⟩
  exact ((Tch.below (T := [ab]) h.low).fresh hT (fun k hk => .inr (N.lo k (h4 k hk)))).toBelow (Nat.le_refl _) (fun k hk => N.lo k (h4 k hk))
theorem StIs.at_ (h : StIs w1 si xi bx mi bs u E f M) {cs : Array Value} (ka : Blk w1 ab 3 cs) (v : Value) : StIs (w1.setCell ⟨ab, 0, none⟩ v) si xi bx mi bs u E f M :=
  h.tch (tch_set w1 ab 0 v) (by simp; exact blk_ne_ty h.blk ka (by decide)) (by simp; exact blk_ne_ty h.idx.blk ka (by decide)) (by simp; exact fun e => blk_ne_map h.idx.map ka e.symm)
    (by simp; exact blk_ne_ty h.maps.blk ka (by decide)) (by simp; exact fun e => blk_ne_map h.maps.map ka e.symm) (fun p hp => by simp; exact blk_ne_ty (h.maps.each p hp) ka (by decide))
end
theorem itC_key1 (i : It) : ((itC i).drop 1).take (keyL i.key).length = keyL i.key := by
  show (keyL i.key ++ _).take _ = _
  rw [List.take_left]
def OfRel (w : World) (L : List It) (ab sb ub si xi bx mi bs u n c : Nat) (A : Option Addr) (k : Nat) (iv : Value) (wr : World) : Prop :=
  ∃ (i : Nat) (t : Int) (E : ExM) (f : MpF) (M : SnM), iv = .int .i64 (i : Int) ∧ i + k ≤ n ∧ n ≤ i + k ∧ StIs wr si xi bx mi bs u E f M ∧ OfI u (L.take i) t E f M ∧ (Fresh0 (L.take i) t f M ∨ Reach (L.take i) t) ∧ E.length ≤ i ∧ OfFr w wr ab sb ub si u n c A L t
def OfMade (w : World) (n : Nat) (l : List It) (e : Ending) (w' : World) : Prop := ∃ si xi bx mi bs E f M, e = .returned (.tuple #[.pointer (some ⟨si, 0, none⟩), .int .i64 0]) ∧ StO w w' si xi bx mi bs n E f M ∧ l.Perm (stItems n E f M)
def OfNot (w : World) (r : Int) (e : Ending) (w' : World) : Prop := e = .returned (.tuple #[.pointer none, .int .i64 r]) ∧ Below w.heap.size w w'
set_option maxRecDepth 100000 in
set_option maxHeartbeats 2000000 in
theorem stOf_any {w : World} {A : Option Addr} {n c : Nat} {l : List It} (h : Src w 73 (.slice A n c) n (itsC l)) (hl : l.length = n) (hn : n ≤ 1000000) (hb : ∀ i ∈ l, ItB i) (u : Nat) (hu : 1 ≤ u ∧ u ≤ 512) :
    Calls Tryz.prog 31 #[.int .i64 (u : Int), .slice A n c] w fun e w' => (makesB (u : Int) l = false → OfNot w 4 e w') ∧ (makesB (u : Int) l = true → OfMade w u l e w') := by
  have H := Lib.hid h
  have HL := Lib.hid hl
  have HB := Lib.hid hb
  have HU := Lib.hid hu
  clear h hl hb hu
  go_enter Tryz.func31, Tryz.ntmps31
  go_upto_region 2 with (go_at_call 11; refine (st_new u HU.out _).mono ?_; rintro e w2 ⟨si, xi, bx, mi, bs, rfl, h1, hb, l1, l2, l3, l4, l5⟩; have S2 := Lib.hid h1; have L2 := Lib.hid hb; have N2 := Lib.hid (And.intro l1 (And.intro l2 (And.intro l3 (And.intro l4 l5)))); clear h1 hb l1 l2 l3 l4 l5)
  obtain ⟨w3, hw3⟩ : ∃ v, v = w2.alloc (Obj.cells #[Value.pointer (some ⟨si, 0, none⟩)] 25) := ⟨_, rfl⟩
  have L02 := Lib.hid (below_chain ((Below.refl w.heap.size w).alloc (Nat.le_refl _) _) L2.out)
  have L23 := Lib.hid (show Below w2.heap.size w2 w3 by rw [hw3]; exact (Below.refl _ _).alloc (Nat.le_refl _) _)
  have L3 := Lib.hid (below_chain L02.out L23.out)
  have K2 := (Blk.made w 3 #[.int .i64 (u : Int)]).below L2.out (by simp)
  have K3 := Lib.hid (K2.below L23.out K2.lt)
  have P3 := Lib.hid (show Blk w3 w2.heap.size 25 #[.pointer (some ⟨si, 0, none⟩)] by rw [hw3]; exact Blk.made _ _ _)
  have S3 := Lib.hid (S2.out.below L23.out)
  have N3 := Lib.hid (show w.heap.size ≤ si ∧ w.heap.size ≤ xi ∧ w.heap.size ≤ bx ∧ w.heap.size ≤ mi ∧ w.heap.size ≤ bs by have := N2.out; simp at this; omega)
  have k3 := K3.out.cell (i := 0) (v := .int .i64 (u : Int)) rfl
  have p3 := P3.out.cell (i := 0) (v := .pointer (some ⟨si, 0, none⟩)) rfl
  rw [← hw3]
  clear hw3 K2 L2 L23 L02 N2 S2
  generalize w2.heap.size = sb at P3 p3 ⊢
  obtain ⟨bm, hbm⟩ : ∃ b, b = makesB (u : Int) l := ⟨_, rfl⟩
  have HBm := Lib.hid hbm
  clear hbm
  cases bm
  case false =>
    go_wp2_with (go_at_call 64; refine (makes_any (u : Int) (H.out.below L3.out) HL.out HB.out hn).mono ?_; rintro e w4 ⟨rfl, hb⟩; rewrite [← HBm.out]; have L4 := Lib.hid (below_chain L3.out hb); clear hb)
    go_ret2
    rw [← HBm.out]
    exact ⟨fun _ => ⟨rfl, L4.out⟩, fun h => by cases h⟩
  case true =>
    have OK := Lib.hid (MkOk.of HB.out HBm.out.symm)
    go_upto_region 8 with (first
      | (go_at_call 77; refine (sortIt_any HO5.out HL.out hn HZ5.out (fun i hi => OK.out.snap hi)).mono ?_; rintro e w6 ⟨rfl, ⟨L, hp, hsr, ho⟩, hb⟩; have HPm := Lib.hid hp; have HSr := Lib.hid hsr; have HO6 := Lib.hid ho; have L46 := Lib.hid (L45.out.trans hb); clear hp hsr ho hb)
      | (go_at_call 76; refine (cloneIt_any ((H.out.below L3.out).below L34.out) HL.out hn).mono ?_; rintro e w5 ⟨v5, rfl, ho, hb⟩; have HO5 := Lib.hid ho; have L45 := Lib.hid hb; have HZ5 := Lib.hid hb.size; clear ho hb)
      | (go_at_call 64; refine (makes_any (u : Int) (H.out.below L3.out) HL.out HB.out hn).mono ?_; rintro e w4 ⟨rfl, hb⟩; rewrite [← HBm.out]; have L34 := Lib.hid hb; clear hb))
    obtain ⟨A6, c6, rfl, -⟩ := Src.of_own HO6.out
    go_upto_region 10 with fail
    obtain ⟨w7, hw7⟩ : ∃ v, v = w6.alloc (Obj.cells #[Value.int .i64 0] 3) := ⟨_, rfl⟩
    have L67 := Lib.hid (show Below w6.heap.size w6 w7 by rw [hw7]; exact (Below.refl _ _).alloc (Nat.le_refl _) _)
    have L36 := Lib.hid (below_chain L34.out L46.out)
    have L37 := Lib.hid (below_chain L36.out L67.out)
    have S6 := Lib.hid (S3.out.below L36.out)
    have S7 := Lib.hid (S3.out.below L37.out)
    have K6 := Lib.hid (K3.out.below L36.out K3.out.lt)
    have P6 := Lib.hid (P3.out.below L36.out P3.out.lt)
    have F7 := Lib.hid (show OfFr w w7 w6.heap.size sb w.heap.size si u n c6 A6 L 0 from ⟨by rw [hw7]; exact Blk.made _ _ _, P3.out.below L37.out P3.out.lt, K3.out.below L37.out K3.out.lt, (Src.of_own HO6.out).below L67.out, below_chain L3.out L37.out⟩)
    have N7 := Lib.hid (show OfN w bx mi bs w6.heap.size sb w.heap.size n A6 from by
      have hk := K6.out.lt
      have hp := P6.out.lt
      have h1 := S6.out.idx.map.lt
      have h2 := S6.out.maps.blk.lt
      have h3 := S6.out.maps.map.lt
      have hn3 := N3.out
      refine ⟨?_, ?_, ?_, fun hm p hp2 => ?_, ?_⟩
      · have e1 := blk_ne_map S6.out.idx.map K6.out
        have e2 := blk_ne_ty K6.out S6.out.maps.blk (by decide)
        have e3 := blk_ne_map S6.out.maps.map K6.out
        simp
        omega
      · have e1 := blk_ne_map S6.out.idx.map P6.out
        have e2 := blk_ne_ty P6.out S6.out.maps.blk (by decide)
        have e3 := blk_ne_map S6.out.maps.map P6.out
        simp
        omega
      · simp
        omega
      · rcases HO6.out.2 with ⟨_, h0⟩ | ⟨g, cap, cur, hv, hb, hg, _⟩
        · omega
        · injection hv with hv
          rw [hv] at hp2
          injection hp2 with hp2
          subst hp2
          have hg' : Blk w6 g 56 cur := hg
          have e1 := blk_ne_map S6.out.idx.map hg'
          have e2 := blk_ne_ty hg' S6.out.maps.blk (by decide)
          have e3 := blk_ne_map S6.out.maps.map hg'
          have e4 := hg'.lt
          simp
          omega
      · intro k hk
        simp at hk
        have := K6.out.lt
        omega)
    have OS := Lib.hid (show OfS u l L from ⟨OK.out, HPm.out, HSr.out⟩)
    have HLL := Lib.hid (show L.length = n by rw [HPm.out.length_eq]; exact HL.out)
    rw [← hw7]
    clear hw7 L67 L36 L37 S6 K6 P6 K3 P3 S3 HPm HSr HO5 HO6 L45 HZ5 L46 L34 k3 p3 L3
    generalize w6.heap.size = ab at F7 N7 ⊢
    generalize w.heap.size = ub at F7 N7 ⊢
    go_wp2_with fail
    go_loopg [26] n (fun k iv wr => OfRel w L ab sb ub si xi bx mi bs u n c6 A6 k iv wr)
    case atStart => exact ⟨0, 0, [], zF, [], rfl, by omega, by omega, S7.out, by simpa using (OfI.start u).1, .inl (by simpa using (OfI.start u).2), by simp, F7.out⟩
    case round =>
      obtain ⟨i, t, E, f, M, rfl, i1, i2, hS, hO, hF, hE, hFr⟩ := hrel
      have HE := Lib.hid hE
      by_cases hi : i < n
      · have hiI : (i : Int) < (n : Int) := by omega
        have hil : i < L.length := by rw [HLL.out]; exact hi
        obtain ⟨b, off, hA, hr⟩ := src_part itC_len hFr.row HLL.out hil
        have HEx := Lib.hid (fun hk => OS.out.ext hO hF hil hk)
        have HTn := Lib.hid (OS.out.turn HU.out.2 hO hF hil)
        have HOx := Lib.hid hO
        have HHe := Lib.hid (fun f M ho hk => OS.out.here (E := E) (f := f) (M := M) hil ho hk)
        have HKi := Lib.hid (right_kinds (OK.out.right _ (OS.out.mem (List.getElem_mem hil))))
        have Fr := Lib.hid hFr
        have SR := Lib.hid hS
        generalize L[i] = x at hr HEx HTn HHe HKi
        subst hA
        have Rg := Lib.hid hr
        clear hr hil hS hO hF hE hFr F7 S7
        go_upto_region 13 with (first
          | ((with_reducible show wpList _ _ _ (_ :: _) _ _); refine wpl_sidx rfl 41 (.tmp 24) (.tmp 26) (by rfl) Tryz.underlying41 Tryz.sizeOf56 b off n c6 i (by rfl) (by rfl) hi ?_; simp only [Act.put, List.setIfInBounds_toArray, List.set_cons_zero, List.set_cons_succ])
          | ((with_reducible show wpList _ _ _ (_ :: _) _ _); refine wpList_load_mid rfl 56 (.tmp 28) (by rfl) b (off + i * 73) (by rfl) (itC x) _ Rg.out Tryz.underlying56 rfl (itC_info x) ?_; simp only [Act.put, List.setIfInBounds_toArray, List.set_cons_zero, List.set_cons_succ])
          | ((with_reducible show wpList _ _ _ (_ :: _) _ _); refine wpl_alloc rfl 56 (by rfl) Tryz.zeroValue56 73 zero_It_len ?_; intro wa cs hk hc hg hz; have K := Lib.hid hk; have C := Lib.hid hc; have G := Lib.hid hg; clear hk hc hg hz; simp only [Act.put, List.setIfInBounds_toArray, List.set_cons_zero, List.set_cons_succ])
          | ((with_reducible show wpList _ _ _ (_ :: _) _ _); refine wpl_over rfl 56 (.tmp 10) (.tmp 29) (by rfl) wr.heap.size (itC x) (by rfl) (by rfl) _ cs K.out (itC_info x) (by rw [itC_len, C.out]) (itC_one x) ?_; intro wb hk hg hz; have KS := Lib.hid hk; have L2 := Lib.hid (bl_g (bl_n (Below.refl _ _) G.out) hg (Nat.le_refl _)); clear hk hg hz; simp only [Act.put, List.setIfInBounds_toArray, List.set_cons_zero, List.set_cons_succ]))
        have SS := Lib.hid (SR.out.below L2.out)
        have FS := Lib.hid (Fr.out.below L2.out)
        clear SR Fr Rg K C G
        have x0 := itC_cell KS.out (j := 0) (v := .int .u8 x.kind) rfl
        have x37 := itC_cell KS.out (it_snap x)
        have a0 := FS.out.ka.cell (i := 0) (v := .int .i64 t) rfl
        by_cases hk1 : x.kind = 1
        · have b1 : (x.kind == 1) = true := beq_iff_eq.2 hk1
          have n1 : (x.kind != 1) = false := by rw [hk1]; rfl
          have HK1 := Lib.hid hk1
          clear hk1
          go_upto_region 18 with fail
          have HGD := Lib.hid (show ∀ W : World, W.cell? ⟨sb, 0, none⟩ = some (.pointer (some ⟨si, 0, none⟩)) → W.cell? ⟨si, 1, none⟩ = some (.pointer (some ⟨xi, 0, none⟩)) → Blk W wr.heap.size 56 (itC x).toArray → (W.cell? ⟨sb, 0, none⟩ = some (.pointer (some ⟨si, 0, none⟩)) ∧ W.cell? ⟨si, 1, none⟩ = some (.pointer (some ⟨xi, 0, none⟩))) ∧ W.rangeAt wr.heap.size 1 (keyL x.key) ∧ W.rangeAt wr.heap.size 33 (plC x.pl) from fun W h1 h2 h3 => ⟨⟨h1, h2⟩, h3.part 1 _ (itC_key1 x), h3.part 33 _ (it_pl x)⟩)
          clear x0 x37 a0 b1 n1
          refine wp_region_qs (fun _ w' => (w'.cell? ⟨sb, 0, none⟩ = some (.pointer (some ⟨si, 0, none⟩)) ∧ w'.cell? ⟨si, 1, none⟩ = some (.pointer (some ⟨xi, 0, none⟩))) ∧ w'.rangeAt wr.heap.size 1 (keyL x.key) ∧ w'.rangeAt wr.heap.size 33 (plC x.pl)) [(0, some 1), (1, some 1), (2, some 1), (3, some 0), (4, some 1), (5, some 0), (6, some 1), (7, some 0), (8, none)] (by kernel_rfl) (by kernel_rfl) (by kernel_rfl) (by kernel_rfl) (by kernel_rfl) (fun _ _ _ _ _ h => h) (HGD.out _ (FS.out.kb.cell (i := 0) rfl) SS.out.c1 KS.out) ?_
          simp only [List.map_cons, List.map_nil, List.getD_cons_succ, List.getD_cons_zero]
          (repeat (first | ((first | (refine qs_row (by rfl) 50 (.tmp 51) (by rfl) wr.heap.size 1 (by rfl) (keyL x.key) _ (fun j w' _ h2 h => h.2.1) Tryz.underlying50 rfl (keyL_info _) ?_) | (refine qs_row (by rfl) 52 (.tmp 53) (by rfl) wr.heap.size 33 (by rfl) (plC x.pl) _ (fun j w' _ h2 h => h.2.2) Tryz.underlying52 rfl (plC_infoB _) ?_)); simp only [Act.put, List.setIfInBounds_toArray, List.set_cons_zero, List.set_cons_succ]) | (refine qs_now (v := ?_) (by rfl) ?_ ?_; rotate_left 1; (· (intro w' hS; go_simp; (try (simp only [↓IntWalk.iteOmega]; go_simp)); (try simp (disch := omega) only [IntWalk.i64_in]); try with_reducible rfl)); simp only [Act.put, List.setIfInBounds_toArray, List.set_cons_zero, List.set_cons_succ]) | (refine qs_run (v := ?_) (by rfl) ?_ ?_; rotate_left 1; (· (intro j w' hS; go_simp; (try (simp only [↓IntWalk.iteOmega]; go_simp)); (try simp (disch := omega) only [IntWalk.i64_in]); try with_reducible rfl)); simp only [Act.put, List.setIfInBounds_toArray, List.set_cons_zero, List.set_cons_succ]) | (refine qs_mid (v := ?_) (by rfl) ?_ ?_; rotate_left 1; (· (intro j w' hj1 hj2 hS; go_simp; (try (simp only [↓IntWalk.iteOmega]; go_simp)); (try simp (disch := omega) only [IntWalk.i64_in]); try with_reducible rfl)); simp only [Act.put, List.setIfInBounds_toArray, List.set_cons_zero, List.set_cons_succ]) | (refine qs_skip (by rfl) ?_; simp only [Act.put, List.setIfInBounds_toArray, List.set_cons_zero, List.set_cons_succ])))
          refine qs_act ?_
          go_wp2_with (go_at_call 82; refine (x_add SS.out.drew.idx x.key x.pl (by have := HE.out; omega)).mono ?_; rintro e w8 ⟨rfl, hx, hT⟩; have X8 := Lib.hid hx; have T8 := Lib.hid hT; clear hx hT)
          have S8 := Lib.hid (SS.out.drew.newIdx X8.out T8.out (fun k hk => by simp at hk; exact hk))
          have F8 := Lib.hid ((FS.out.below (Below.refl _ _).drew).tch N7.out T8.out (fun k hk => by simp at hk ⊢; exact .inl hk))
          have K8 := Lib.hid (KS.out.drew.tch T8.out (by simp; exact blk_ne_map SS.out.idx.map KS.out))
          refine ⟨HGD.out _ (F8.out.kb.cell (i := 0) rfl) S8.out.c1 K8.out, ?_⟩
          refine qs_nil ?_
          go_wp2_with fail
          go_roundg (gk - 1)
          case rel => exact ⟨i + 1, t, addX E x.key x.pl, f, M, by go_num, by omega, by omega, S8.out, (HEx.out HK1.out).1, (HEx.out HK1.out).2, by have := HE.out; have := addX_len E x.key x.pl; omega, F8.out⟩
          case measure => omega
        · have b1 : (x.kind == 1) = false := beq_eq_false_iff_ne.2 hk1
          have n1 : (x.kind != 1) = true := bne_iff_ne.2 hk1
          have HK1 := Lib.hid hk1
          have HK23 := Lib.hid (show x.kind = 2 ∨ x.kind = 3 by rcases HKi.out with h | h | h; exact absurd h hk1; exact .inl h; exact .inr h)
          clear hk1
          by_cases hs : x.snap = t
          · have b3 : (x.snap != t) = false := by rw [hs]; exact bne_self_eq_false t
            have HSn := Lib.hid hs
            have OO := Lib.hid (show OfI u (L.take i) x.snap E f M by rw [HSn.out]; exact HOx.out)
            have FS := Lib.hid (show OfFr w wb ab sb ub si u n c6 (some ⟨b, off, none⟩) L x.snap by rw [HSn.out]; exact FS.out)
            clear hs HTn HOx HEx
            obtain ⟨fS, hfS⟩ : ∃ g, g = f := ⟨_, rfl⟩
            obtain ⟨MS, hMS⟩ : ∃ g, g = M := ⟨_, rfl⟩
            subst hfS hMS
            go_upto_region 16 with fail
            clear x0 x37 a0 b3 n1
            have x0 := itC_cell KS.out (j := 0) (v := .int .u8 x.kind) rfl
            rcases HK23.out with hk2 | hk2
            · have HK2 := Lib.hid hk2
              have b2 : (x.kind == 2) = true := beq_iff_eq.2 hk2
              clear hk2
              go_upto_region 20 with fail
              have HGD := Lib.hid (show ∀ W : World, W.cell? ⟨sb, 0, none⟩ = some (.pointer (some ⟨si, 0, none⟩)) → W.cell? ⟨si, 2, none⟩ = some (.pointer (some ⟨mi, 0, none⟩)) → Blk W wr.heap.size 56 (itC x).toArray → (W.cell? ⟨sb, 0, none⟩ = some (.pointer (some ⟨si, 0, none⟩)) ∧ W.cell? ⟨si, 2, none⟩ = some (.pointer (some ⟨mi, 0, none⟩)) ∧ W.cell? ⟨wr.heap.size, 38, none⟩ = some (.int .i64 x.unit)) ∧ W.rangeAt wr.heap.size 39 (slC x.sl) from fun W h1 h2 h3 => ⟨⟨h1, h2, itC_cell h3 (it_unit x)⟩, h3.part 39 _ (it_sl x)⟩)
              clear x0 b2 b1
              refine wp_region_qs (fun _ w' => (w'.cell? ⟨sb, 0, none⟩ = some (.pointer (some ⟨si, 0, none⟩)) ∧ w'.cell? ⟨si, 2, none⟩ = some (.pointer (some ⟨mi, 0, none⟩)) ∧ w'.cell? ⟨wr.heap.size, 38, none⟩ = some (.int .i64 x.unit)) ∧ w'.rangeAt wr.heap.size 39 (slC x.sl)) [(0, some 1), (1, some 1), (2, some 1), (3, some 0), (4, some 1), (5, some 0), (6, some 1), (7, some 0), (8, none)] (by kernel_rfl) (by kernel_rfl) (by kernel_rfl) (by kernel_rfl) (by kernel_rfl) (fun _ _ _ _ _ h => h) (HGD.out _ (FS.out.kb.cell (i := 0) rfl) SS.out.c2 KS.out) ?_
              simp only [List.map_cons, List.map_nil, List.getD_cons_succ, List.getD_cons_zero]
              (repeat (first | ((refine qs_row (by rfl) 54 (.tmp 64) (by rfl) wr.heap.size 39 (by rfl) (slC x.sl) _ (fun j w' _ h2 h => h.2) Tryz.underlying54 rfl (slC_info _) ?_); simp only [Act.put, List.setIfInBounds_toArray, List.set_cons_zero, List.set_cons_succ]) | (refine qs_now (v := ?_) (by rfl) ?_ ?_; rotate_left 1; (· (intro w' hS; go_simp; (try (simp only [↓IntWalk.iteOmega]; go_simp)); (try simp (disch := omega) only [IntWalk.i64_in]); try with_reducible rfl)); simp only [Act.put, List.setIfInBounds_toArray, List.set_cons_zero, List.set_cons_succ]) | (refine qs_run (v := ?_) (by rfl) ?_ ?_; rotate_left 1; (· (intro j w' hS; go_simp; (try (simp only [↓IntWalk.iteOmega]; go_simp)); (try simp (disch := omega) only [IntWalk.i64_in]); try with_reducible rfl)); simp only [Act.put, List.setIfInBounds_toArray, List.set_cons_zero, List.set_cons_succ]) | (refine qs_mid (v := ?_) (by rfl) ?_ ?_; rotate_left 1; (· (intro j w' hj1 hj2 hS; go_simp; (try (simp only [↓IntWalk.iteOmega]; go_simp)); (try simp (disch := omega) only [IntWalk.i64_in]); try with_reducible rfl)); simp only [Act.put, List.setIfInBounds_toArray, List.set_cons_zero, List.set_cons_succ]) | (refine qs_skip (by rfl) ?_; simp only [Act.put, List.setIfInBounds_toArray, List.set_cons_zero, List.set_cons_succ])))
              refine qs_act ?_
              go_wp2_with (go_at_call 83; refine (set_any SS.out.drew.maps x.unit x.sl).mono ?_; rintro e w8 ⟨rfl, hm, hT⟩; have M8 := Lib.hid hm; have T8 := Lib.hid hT; clear hm hT)
              have S8 := Lib.hid (SS.out.drew.newMaps M8.out T8.out (fun k hk => by simp at hk; exact .inl hk))
              have F8 := Lib.hid ((FS.out.below (Below.refl _ _).drew).tch N7.out T8.out (fun k hk => by simp at hk ⊢; exact .inr (.inl hk)))
              have K8 := Lib.hid (KS.out.drew.tch T8.out (by simp; exact blk_ne_ty KS.out SS.out.maps.blk (by decide)))
              refine ⟨HGD.out _ (F8.out.kb.cell (i := 0) rfl) S8.out.c2 K8.out, ?_⟩
              refine qs_nil ?_
              go_wp2_with fail
              go_roundg (gk - 1)
              case rel => exact ⟨i + 1, x.snap, E, setF u fS x.unit x.sl, MS, by go_num, by omega, by omega, S8.out, (HHe.out _ _ OO.out HK1.out).2.1 HK2.out, .inr (HHe.out _ _ OO.out HK1.out).1, by have := HE.out; omega, F8.out⟩
              case measure => omega
            · have HK3 := Lib.hid hk2
              have b2 : (x.kind == 2) = false := beq_eq_false_iff_ne.2 (by omega)
              clear hk2
              go_wp2_with fail
              go_roundg (gk - 1)
              case rel => exact ⟨i + 1, x.snap, E, fS, MS, by go_num, by omega, by omega, SS.out, (HHe.out _ _ OO.out HK1.out).2.2 HK3.out, .inr (HHe.out _ _ OO.out HK1.out).1, by have := HE.out; omega, FS.out⟩
              case measure => omega
          · have b3 : (x.snap != t) = true := bne_iff_ne.2 hs
            have HSn := Lib.hid hs
            clear hs
            go_upto_region 15 with (go_at_call 79; refine (ofEnd_any SS.out FS.out.ka FS.out.kb FS.out.ku (fun h => ((HTn.out HSn.out).2 h).1)).mono ?_; rintro e w5 ⟨rfl, hT, h0, h1⟩; have T5 := Lib.hid hT; have HZ := Lib.hid h0; have HNZ := Lib.hid h1; clear hT h0 h1)
            have HU2 : ∃ fS MS, StIs w5 si xi bx mi bs u E fS MS ∧ OfI u (L.take i) x.snap E fS MS := by
              by_cases h0 : t = 0
              · exact ⟨f, M, HZ.out h0, (HTn.out HSn.out).1 h0⟩
              · obtain ⟨v, hv⟩ := HNZ.out h0
                exact ⟨_, _, hv, ((HTn.out HSn.out).2 h0).2 v⟩
            obtain ⟨fS, MS, hSS, hOO⟩ := HU2
            have OO := Lib.hid hOO
            have F5 := Lib.hid (FS.out.tch N7.out T5.out (fun k hk => by simp at hk ⊢; exact .inr hk))
            have K5 := Lib.hid (KS.out.tch T5.out (by
              have e1 := blk_ne_ty KS.out SS.out.maps.blk (by decide)
              have e2 := blk_ne_map SS.out.maps.map KS.out
              simp
              exact ⟨e1, e2⟩))
            have S5 := Lib.hid hSS
            clear x0 x37 a0 hSS hOO HZ HNZ HTn HOx HEx SS FS KS b3 n1
            have x37 := itC_cell K5.out (it_snap x)
            have a5 := F5.out.ka.cell (i := 0) (v := .int .i64 t) rfl
            have z5 := F5.out.ka.free 0
            go_upto_region 16 with fail
            obtain ⟨wS, hwS⟩ : ∃ v, v = w5.setCell ⟨ab, 0, none⟩ (.int .i64 x.snap) := ⟨_, rfl⟩
            have FS := Lib.hid (show OfFr w wS ab sb ub si u n c6 (some ⟨b, off, none⟩) L x.snap by rw [hwS]; exact F5.out.at_ N7.out x.snap)
            have SS := Lib.hid (show StIs wS si xi bx mi bs u E fS MS by rw [hwS]; exact S5.out.at_ F5.out.ka _)
            have KS := Lib.hid (show Blk wS wr.heap.size 56 (itC x).toArray by rw [hwS]; exact K5.out.tch (tch_set w5 ab 0 _) (by simp; exact blk_ne_ty K5.out F5.out.ka (by decide)))
            rw [← hwS]
            clear hwS x37 a5 z5 F5 S5 K5
            have x0 := itC_cell KS.out (j := 0) (v := .int .u8 x.kind) rfl
            rcases HK23.out with hk2 | hk2
            · have HK2 := Lib.hid hk2
              have b2 : (x.kind == 2) = true := beq_iff_eq.2 hk2
              clear hk2
              go_upto_region 20 with fail
              have HGD := Lib.hid (show ∀ W : World, W.cell? ⟨sb, 0, none⟩ = some (.pointer (some ⟨si, 0, none⟩)) → W.cell? ⟨si, 2, none⟩ = some (.pointer (some ⟨mi, 0, none⟩)) → Blk W wr.heap.size 56 (itC x).toArray → (W.cell? ⟨sb, 0, none⟩ = some (.pointer (some ⟨si, 0, none⟩)) ∧ W.cell? ⟨si, 2, none⟩ = some (.pointer (some ⟨mi, 0, none⟩)) ∧ W.cell? ⟨wr.heap.size, 38, none⟩ = some (.int .i64 x.unit)) ∧ W.rangeAt wr.heap.size 39 (slC x.sl) from fun W h1 h2 h3 => ⟨⟨h1, h2, itC_cell h3 (it_unit x)⟩, h3.part 39 _ (it_sl x)⟩)
              clear x0 b2 b1
              refine wp_region_qs (fun _ w' => (w'.cell? ⟨sb, 0, none⟩ = some (.pointer (some ⟨si, 0, none⟩)) ∧ w'.cell? ⟨si, 2, none⟩ = some (.pointer (some ⟨mi, 0, none⟩)) ∧ w'.cell? ⟨wr.heap.size, 38, none⟩ = some (.int .i64 x.unit)) ∧ w'.rangeAt wr.heap.size 39 (slC x.sl)) [(0, some 1), (1, some 1), (2, some 1), (3, some 0), (4, some 1), (5, some 0), (6, some 1), (7, some 0), (8, none)] (by kernel_rfl) (by kernel_rfl) (by kernel_rfl) (by kernel_rfl) (by kernel_rfl) (fun _ _ _ _ _ h => h) (HGD.out _ (FS.out.kb.cell (i := 0) rfl) SS.out.c2 KS.out) ?_
              simp only [List.map_cons, List.map_nil, List.getD_cons_succ, List.getD_cons_zero]
              (repeat (first | ((refine qs_row (by rfl) 54 (.tmp 64) (by rfl) wr.heap.size 39 (by rfl) (slC x.sl) _ (fun j w' _ h2 h => h.2) Tryz.underlying54 rfl (slC_info _) ?_); simp only [Act.put, List.setIfInBounds_toArray, List.set_cons_zero, List.set_cons_succ]) | (refine qs_now (v := ?_) (by rfl) ?_ ?_; rotate_left 1; (· (intro w' hS; go_simp; (try (simp only [↓IntWalk.iteOmega]; go_simp)); (try simp (disch := omega) only [IntWalk.i64_in]); try with_reducible rfl)); simp only [Act.put, List.setIfInBounds_toArray, List.set_cons_zero, List.set_cons_succ]) | (refine qs_run (v := ?_) (by rfl) ?_ ?_; rotate_left 1; (· (intro j w' hS; go_simp; (try (simp only [↓IntWalk.iteOmega]; go_simp)); (try simp (disch := omega) only [IntWalk.i64_in]); try with_reducible rfl)); simp only [Act.put, List.setIfInBounds_toArray, List.set_cons_zero, List.set_cons_succ]) | (refine qs_mid (v := ?_) (by rfl) ?_ ?_; rotate_left 1; (· (intro j w' hj1 hj2 hS; go_simp; (try (simp only [↓IntWalk.iteOmega]; go_simp)); (try simp (disch := omega) only [IntWalk.i64_in]); try with_reducible rfl)); simp only [Act.put, List.setIfInBounds_toArray, List.set_cons_zero, List.set_cons_succ]) | (refine qs_skip (by rfl) ?_; simp only [Act.put, List.setIfInBounds_toArray, List.set_cons_zero, List.set_cons_succ])))
              refine qs_act ?_
              go_wp2_with (go_at_call 83; refine (set_any SS.out.drew.maps x.unit x.sl).mono ?_; rintro e w8 ⟨rfl, hm, hT⟩; have M8 := Lib.hid hm; have T8 := Lib.hid hT; clear hm hT)
              have S8 := Lib.hid (SS.out.drew.newMaps M8.out T8.out (fun k hk => by simp at hk; exact .inl hk))
              have F8 := Lib.hid ((FS.out.below (Below.refl _ _).drew).tch N7.out T8.out (fun k hk => by simp at hk ⊢; exact .inr (.inl hk)))
              have K8 := Lib.hid (KS.out.drew.tch T8.out (by simp; exact blk_ne_ty KS.out SS.out.maps.blk (by decide)))
              refine ⟨HGD.out _ (F8.out.kb.cell (i := 0) rfl) S8.out.c2 K8.out, ?_⟩
              refine qs_nil ?_
              go_wp2_with fail
              go_roundg (gk - 1)
              case rel => exact ⟨i + 1, x.snap, E, setF u fS x.unit x.sl, MS, by go_num, by omega, by omega, S8.out, (HHe.out _ _ OO.out HK1.out).2.1 HK2.out, .inr (HHe.out _ _ OO.out HK1.out).1, by have := HE.out; omega, F8.out⟩
              case measure => omega
            · have HK3 := Lib.hid hk2
              have b2 : (x.kind == 2) = false := beq_eq_false_iff_ne.2 (by omega)
              clear hk2
              go_wp2_with fail
              go_roundg (gk - 1)
              case rel => exact ⟨i + 1, x.snap, E, fS, MS, by go_num, by omega, by omega, SS.out, (HHe.out _ _ OO.out HK1.out).2.2 HK3.out, .inr (HHe.out _ _ OO.out HK1.out).1, by have := HE.out; omega, FS.out⟩
              case measure => omega
      · have hiI : ¬ (i : Int) < (n : Int) := by omega
        have hLt : L.take i = L := List.take_of_length_le (by rw [HLL.out]; omega)
        rw [hLt] at hO hF
        have HLa := Lib.hid (OS.out.last HU.out.2 hO hF)
        have Fr := Lib.hid hFr
        have SR := Lib.hid hS
        clear hO hF hS hFr hLt hE F7 S7
        go_upto_region 23 with (go_at_call 79; refine (ofEnd_any SR.out Fr.out.ka Fr.out.kb Fr.out.ku (fun h => (HLa.out.2 h).1)).mono ?_; rintro e w5 ⟨rfl, hT, h0, h1⟩; have T5 := Lib.hid hT; have HZ := Lib.hid h0; have HNZ := Lib.hid h1; clear hT h0 h1)
        have F5 := Lib.hid (Fr.out.tch N7.out T5.out (fun k hk => by simp at hk ⊢; exact .inr hk))
        have c5 := F5.out.kb.cell (i := 0) (v := .pointer (some ⟨si, 0, none⟩)) rfl
        go_wp2_with fail
        go_ret2
        rw [← HBm.out]
        refine ⟨(fun h => by cases h), fun _ => ?_⟩
        by_cases h0 : t = 0
        · exact ⟨si, xi, bx, mi, bs, E, f, M, rfl, ⟨HZ.out h0, (HLa.out.1 h0).2, F5.out.low, N3.out⟩, (HLa.out.1 h0).1⟩
        · obtain ⟨v, hv⟩ := HNZ.out h0
          exact ⟨si, xi, bx, mi, bs, E, _, _, rfl, ⟨hv, ((HLa.out.2 h0).2 v).2, F5.out.low, N3.out⟩, ((HLa.out.2 h0).2 v).1⟩
end Go.Proofs.YtgjjdfhoakailaaGreat

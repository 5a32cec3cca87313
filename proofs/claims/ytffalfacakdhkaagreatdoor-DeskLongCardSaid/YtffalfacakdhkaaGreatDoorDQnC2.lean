/-
  what this claim needs of: QnC2, QnC3 (written by cut.py).
-/
import Derived.Test.YtffalfacakdhkaaGreatDoorDQnD
import Derived.Defers
import Derived.Laws.Pointers
import Derived.Laws.LoneSync
namespace Go.Proofs.YtffalfacakdhkaaGreatDoor
open Go.RowKit Go.Maps
set_option linter.unusedVariables false
set_option linter.unusedSimpArgs false
section
variable {w w' : World} {c kb d sb ob n : Nat} {K : KM} {S O : SM} {sk : Int → Prop} {g : Nat}
theorem built_ke (A : Option Addr) (m cap : Nat) (t : Int) : Tryz.prog.built 400 [(0, .slice A m cap), (1, .int .i64 t)] = some #[.slice A m cap, .int .i64 t] := by kernel_rfl
theorem field_ke (A : Option Addr) (m cap : Nat) (t : Int) (W : World) : (Instr.field 400 (.agg #[.slice A m cap, .int .i64 t]) 1).run Tryz.prog W = .ok (.int .i64 t) W := by kernel_rfl
theorem ke_info (e : Ke) : (Tryz.prog.info? 400).map (·.size) = some [Value.slice e.A 512 e.cap, .int .i64 e.at_].length := by show _ = some 2; kernel_rfl
theorem zero_ke (u : World) : (zeroValue 400).run Tryz.prog u = .ok (.agg #[.slice none 0 0, .int .i64 0]) u := Tryz.zeroValue400 u
theorem look_ke (o : Option Ke) : ∃ (A : Option Addr) (m cap : Nat) (t : Int), (o.map veK).getD (.agg #[.slice none 0 0, .int .i64 0]) = .agg #[.slice A m cap, .int .i64 t] := by
 cases o with
 | none => exact ⟨none, 0, 0, 0, rfl⟩
 | some e => exact ⟨e.A, 512, e.cap, e.at_, rfl⟩
/-- While the eldest is looked for: nothing turns but what is new. -/
structure KeI (w1 : World) (kb r : Nat) (K todo : KM) (el : Int) (wr : World) : Prop where
 rng : RangeIs Tryz.prog 3 kD lD veK wr kb r K todo
 low : Below w1.heap.size w1 wr
 key : keyOf Tryz.prog 3 (kD el) = some (lD el)
def KeL (w1 : World) (kb r : Nat) (K : KM) (k : Nat) (ev : Value) (wr : World) : Prop := ∃ el todo, k = todo.length ∧ ev = .int .i64 el ∧ KeI w1 kb r K todo el wr
theorem blk_ne_tyD {w : World} {g g' : Nat} {t t' : TypeId} {cs cs' : Array Value} (h : Blk w g t cs) (h' : Blk w g' t' cs') (ht : t ≠ t') : g ≠ g' := by
 rintro rfl
 unfold Blk at h h'
 rw [h] at h'
 injection h' with h'
 injection h' with _ h'
 exact ht h'
theorem CcW.newMap {K' : KM} {sk' : Int → Prop} (h : CcW w c kb d sb ob n K S O sk) (hT : Tch [kb] w w') (hm : MapIs Tryz.prog 3 kD lD veK w' kb K') (hr : ∀ p ∈ K', BSrc w' p.2.A 512 (secL p.2.x) ∧ (sk' p.1 ∨ p.2.x = latD S O p.1)) : CcW w' c kb d sb ob n K' S O sk' := by
 obtain ⟨now, hi, mi, hb⟩ := h.blk
 exact ⟨⟨now, hi, mi, hb.tch hT (by have := blk_ne_mapD h.map hb; simpa using this)⟩, hm, h.dk.tch hT (by have := blk_ne_mapD h.map h.dk.blk; simpa using this) (by have := h.nes.1; simpa using this.symm) (by have := h.nes.2; simpa using this.symm), hr, h.nes⟩
theorem bsrc_map {A : Option Addr} {m : Nat} {ys : List Value} (hs : BSrc w A m ys) (h : MapIs Tryz.prog 3 kD lD veK w kb K) (hT : Tch [kb] w w') : BSrc w' A m ys :=
 hs.tch hT (fun b cs hb => by have := blk_ne_mapD h hb; simpa using this)
theorem CcW.put {i : Int} {e : Ke} (h : CcW w c kb d sb ob n K S O (fun k => k = i)) (hm : MapIs Tryz.prog 3 kD lD veK w' kb (aput K i e)) (hT : Tch [kb] w w') (he : BSrc w e.A 512 (secL e.x)) (hx : e.x = latD S O i) : CcW w' c kb d sb ob n (aput K i e) S O (fun _ => False) := by
 refine h.newMap hT hm (fun p hp => ?_)
 rcases List.mem_cons.1 hp with rfl | hp
 ·exact ⟨bsrc_map he h.map hT, .inr hx⟩
 ·obtain ⟨hp1, hp2⟩ := List.mem_filter.1 hp
  have hne : p.1 ≠ i := by simpa using hp2
  obtain ⟨h1, h2⟩ := h.rows p hp1
  exact ⟨bsrc_map h1 h.map hT, .inr (h2.resolve_left hne)⟩
theorem CcW.del {i : Int} (h : CcW w c kb d sb ob n K S O sk) (hm : MapIs Tryz.prog 3 kD lD veK w' kb (adel K i)) (hT : Tch [kb] w w') : CcW w' c kb d sb ob n (adel K i) S O sk :=
 h.newMap hT hm (fun p hp => by
  obtain ⟨hp1, _⟩ := List.mem_filter.1 hp
  obtain ⟨h1, h2⟩ := h.rows p hp1
  exact ⟨bsrc_map h1 h.map hT, h2⟩)
theorem tch_g {b : Nat} (hg : w.grownBy w' (some b)) : Tch [b] w w' := Tch.grown hg (fun k hk => by injection hk with hk; subst hk; exact .inl (by simp))
theorem kput_len (M : KM) (x : Int) (v : Ke) : (aput M x v).length ≤ M.length + 1 := by
 unfold aput
 rw [List.length_cons]
 have := adel_le M x
 omega
/-- No row of a cache's lies in block g. -/
def Avoid (K : KM) (g : Nat) : Prop := ∀ p ∈ K, ∀ a : Addr, p.2.A = some a → a.block ≠ g
theorem Avoid.del (h : Avoid K g) (x : Int) : Avoid (adel K x) g := fun p hp => h p (List.mem_filter.1 hp).1
theorem Avoid.put (h : Avoid K g) (x : Int) (e : Ke) (he : ∀ a : Addr, e.A = some a → a.block ≠ g) : Avoid (aput K x e) g := by
 intro p hp
 rcases List.mem_cons.1 hp with rfl | hp
 ·exact he
 ·exact h p (List.mem_filter.1 hp).1
theorem own_addr {w : World} {base m sz cap : Nat} {e : TypeId} {A : Option Addr} {ys : List Value} (ho : w.ownsRow base e sz (.slice A m cap) m ys) : ∀ a : Addr, A = some a → base ≤ a.block ∧ a.block < w.heap.size := by
 intro a ha
 subst ha
 exact own_atD ho a.block rfl
def KeepPost (w : World) (c kb d sb ob n : Nat) (K : KM) (S O : SM) (e : Ending) (w' : World) : Prop := ∃ K', e = .returned (.tuple #[]) ∧ CcW w' c kb d sb ob n K' S O (fun _ => False) ∧ K'.length ≤ K.length + 1 ∧ Tch [c, kb] w w' ∧ ∀ g, g < w.heap.size → Avoid K g → Avoid K' g
set_option maxRecDepth 100000 in
set_option maxHeartbeats 1000000 in
theorem cc_keep {i : Int} (h : CcW w c kb d sb ob n K S O (fun k => k = i)) (hi : -9223372036854775808 ≤ i ∧ i ≤ 9223372036854775807) {A : Option Addr} {cap : Nat} (hs : BSrc w A 512 (secL (latD S O i))) (hK : K.length ≤ 1000000) :
  Calls Tryz.prog 205 #[.pointer (some ⟨c, 0, none⟩), .int .i64 i, .slice A 512 cap] w (KeepPost w c kb d sb ob n K S O) := by
 obtain ⟨now, hh, mm, hb⟩ := h.blk
 obtain ⟨b0, off0, rfl, _, _⟩ := hs.rng
 have H := yH h
 have HI := yH hi
 have HS := yH hs
 have HK := yH hK
 have HB := yH hb
 have c2 : w.cell? ⟨c, 2, none⟩ = some (.int .i64 now) := hb.cell rfl
 have f2 := hb.free 2
 obtain ⟨n1, hn1⟩ : ∃ n1, IntKind.i64.wrap (now + 1) = n1 := ⟨_, rfl⟩
 clear h hi hs hK hb
 go_enter Tryz.func205, Tryz.ntmps205
 go_upto_region 1 with fail
 obtain ⟨wn, hwn⟩ : ∃ v, v = w.setCell ⟨c, 2, none⟩ (.int .i64 n1) := ⟨_, rfl⟩
 have BN := yH (show Blk wn c 206 (ccC d kb 64 n1 hh mm).toArray by rw [hwn]; exact HB.out.put 2 _)
 have TN := yH (show Tch [c] w wn by rw [hwn]; exact tch_g (grown_put w _ _))
 have CN := yH (H.out.turn TN.out (by simp) ⟨n1, hh, mm, BN.out⟩)
 have SN := yH (HS.out.tch TN.out (fun b cs hk => by have := blk_ne_tyD hk HB.out (by decide); simpa using this))
 rw [← hwn]
 clear hwn hn1 c2 f2 HS
 refine wp_region_qs (fun _ w' => w'.cell? ⟨c, 3, none⟩ = some (.map (some kb)) ∧ w'.cell? ⟨c, 2, none⟩ = some (.int .i64 n1)) [(0, some 1), (1, some 1), (2, some 1), (3, some 1), (4, some 1), (5, some 0), (7, some 1), (8, some 1), (9, some 1), (10, some 1), (6, none), (11, some 1), (12, none)] (by kernel_rfl) (by kernel_rfl) (by kernel_rfl) (by kernel_rfl) (by kernel_rfl) (fun _ _ _ _ _ h => h) ⟨BN.out.drew.cell rfl, BN.out.drew.cell rfl⟩ ?_
 simp only [yD, yE, yF, yG]
 (repeat (first | (refine qs_mid (v := ?_) (by rfl) ?_ ?_; rotate_left 1; (· (intro j w' hj1 hj2 hS; go_simp; (try (simp only [↓IntWalk.iteOmega]; go_simp)); (try simp (disch := omega) only [IntWalk.i64_in]); try with_reducible rfl)); simp only [Act.put, yA, yB, yC]) | (refine qs_skip (by rfl) ?_; simp only [Act.put, yA, yB, yC])))
 refine qs_act ?_
 go_wp2_with (go_at_call 102; refine (bclone_any ⟨b0, off0, none⟩ 512 cap (SN.out.below (Below.refl _ wn).drew).src (secL_one _) (by omega)).mono ?_; rintro e w1 ⟨v1, rfl, ho, hb⟩; obtain ⟨A1, cap1, rfl, _⟩ := own_slice ho; have O1 := yH ho; have L1 := yH (below_chain (Below.refl _ wn).drew hb); have hbk := built_ke A1 512 cap1 n1; clear ho hb)
 have C1 := yH (CN.out.below L1.out)
 have B1 := yH (BN.out.below L1.out BN.out.lt)
 refine ⟨⟨B1.out.cell rfl, B1.out.cell rfl⟩, ?_⟩
 (repeat (first | (refine qs_mid (v := ?_) (by rfl) ?_ ?_; rotate_left 1; (· (intro j w' hj1 hj2 hS; go_simp; (try (simp only [↓IntWalk.iteOmega]; go_simp)); (try simp (disch := omega) only [IntWalk.i64_in]); try with_reducible rfl)); simp only [Act.put, yA, yB, yC]) | (refine qs_skip (by rfl) ?_; simp only [Act.put, yA, yB, yC])))
 refine qs_act ?_
 go_wp2_with (refine wpl_mput rfl 201 (.tmp 19) (.tmp 20) (.tmp 27) (by rfl) keyed_int Tryz.underlying201 C1.out.map (by have := HK.out; unfold maxLen; omega) (by rfl) i (by rfl) (⟨A1, cap1, n1, latD S O i⟩ : Ke) (by rfl) (lD_inj _) (key_D HI.out) ?_; intro w2 hm hg; have T2 := yH (tch_g hg); have C2 := yH (C1.out.put hm T2.out (BSrc.of_own O1.out (by omega)) rfl); clear hm hg; simp only [Act.put, yA, yB, yC])
 have B2 := yH (B1.out.tch T2.out (by have := blk_ne_mapD C1.out.map B1.out; simpa using this))
 have TT := yH (show Tch [c, kb] w w2 from ((TN.out.mono (fun k hk => by simp at hk; simp [hk])).trans (Tch.below L1.out)).trans (T2.out.mono (fun k hk => by simp at hk; simp [hk])))
 have HL := yH (kput_len K i (⟨A1, cap1, n1, latD S O i⟩ : Ke))
 have AV := yH (show ∀ g, g < w.heap.size → Avoid K g → Avoid (aput K i (⟨A1, cap1, n1, latD S O i⟩ : Ke)) g from fun g hg hK => hK.put _ _ (fun a ha => by have := (own_addr O1.out a ha).1; have h2 : w.heap.size ≤ wn.heap.size := TN.out.size; have h3 : wn.drew.heap.size = wn.heap.size := rfl; omega))
 refine ⟨⟨B2.out.cell rfl, B2.out.cell rfl⟩, ?_⟩
 (repeat (first | (refine qs_mid (v := ?_) (by rfl) ?_ ?_; rotate_left 1; (· (intro j w' hj1 hj2 hS; go_simp; (try (simp only [↓IntWalk.iteOmega]; go_simp)); (try simp (disch := omega) only [IntWalk.i64_in]); try with_reducible rfl)); simp only [Act.put, yA, yB, yC]) | (refine qs_skip (by rfl) ?_; simp only [Act.put, yA, yB, yC])))
 refine qs_nil ?_
 generalize aput K i (⟨A1, cap1, n1, latD S O i⟩ : Ke) = K2 at *
 go_upto_region 2 with fail
 clear hbk O1 C1 B1 L1 CN BN SN T2
 by_cases hle : K2.length ≤ 64
 ·have hlI : (K2.length : Int) ≤ 64 := by omega
  have hlb : decide ((K2.length : Int) ≤ 64) = true := decide_eq_true hlI
  refine wp_region_qs (fun _ w' => w'.cell? ⟨c, 3, none⟩ = some (.map (some kb)) ∧ w'.cell? ⟨c, 1, none⟩ = some (.int .i64 64) ∧ MapIs Tryz.prog 3 kD lD veK w' kb K2) [(0, some 0), (1, some 0), (2, some 0), (3, some 0), (4, some 0), (5, some 0), (6, some 0), (7, some 0), (8, some 0), (9, some 0)] (by kernel_rfl) (by kernel_rfl) (by kernel_rfl) (by kernel_rfl) (by kernel_rfl) (fun _ _ _ _ _ h => h) ⟨C2.out.drew.c3, C2.out.drew.c1, C2.out.drew.map⟩ ?_
  simp only [yD, yE, yF, yG]
  (repeat (first | ((refine qs_mlenD (by rfl) 201 (.tmp 31) (by rfl) Tryz.underlying201 (by rfl) (fun j w' _ _ h => h.2.2) ?_); simp only [Act.put, yA, yB, yC]) | (refine qs_mid (v := ?_) (by rfl) ?_ ?_; rotate_left 1; (· (intro j w' hj1 hj2 hS; go_simp; (try (simp only [↓IntWalk.iteOmega]; go_simp)); (try simp (disch := omega) only [IntWalk.i64_in]); try with_reducible rfl)); simp only [Act.put, yA, yB, yC]) | (refine qs_skip (by rfl) ?_; simp only [Act.put, yA, yB, yC])))
  refine qs_nil ?_
  go_wp2_with fail
  go_end0
  exact ⟨K2, rfl, C2.out.drew, HL.out, TT.out.trans (Tch.below (Below.refl _ _).drew), AV.out⟩
 ·have hlI : ¬ (K2.length : Int) ≤ 64 := by omega
  have hlb : decide ((K2.length : Int) ≤ 64) = false := decide_eq_false hlI
  refine wp_region_qs (fun _ w' => w'.cell? ⟨c, 3, none⟩ = some (.map (some kb)) ∧ w'.cell? ⟨c, 1, none⟩ = some (.int .i64 64) ∧ MapIs Tryz.prog 3 kD lD veK w' kb K2) [(0, some 0), (1, some 0), (2, some 0), (3, some 0), (4, some 0), (5, some 0), (6, some 0), (7, some 0), (8, some 0), (9, some 0)] (by kernel_rfl) (by kernel_rfl) (by kernel_rfl) (by kernel_rfl) (by kernel_rfl) (fun _ _ _ _ _ h => h) ⟨C2.out.drew.c3, C2.out.drew.c1, C2.out.drew.map⟩ ?_
  simp only [yD, yE, yF, yG]
  (repeat (first | ((refine qs_mlenD (by rfl) 201 (.tmp 31) (by rfl) Tryz.underlying201 (by rfl) (fun j w' _ _ h => h.2.2) ?_); simp only [Act.put, yA, yB, yC]) | (refine qs_mid (v := ?_) (by rfl) ?_ ?_; rotate_left 1; (· (intro j w' hj1 hj2 hS; go_simp; (try (simp only [↓IntWalk.iteOmega]; go_simp)); (try simp (disch := omega) only [IntWalk.i64_in]); try with_reducible rfl)); simp only [Act.put, yA, yB, yC]) | (refine qs_skip (by rfl) ?_; simp only [Act.put, yA, yB, yC])))
  refine qs_nil ?_
  obtain ⟨w3, hw3⟩ : ∃ v, v = w2.drew := ⟨_, rfl⟩
  have C3 := yH (show CcW w3 c kb d sb ob n K2 S O (fun _ => False) by rw [hw3]; exact C2.out.drew)
  have T3 := yH (show Tch [c, kb] w w3 by rw [hw3]; exact TT.out.trans (Tch.below (Below.refl _ _).drew))
  rw [← hw3]
  have c3 := C3.out.c3
  clear hw3 C2 TT B2
  go_upto_region 5 with (refine wpl_mrange rfl 201 (.tmp 42) (by rfl) keyed_int Tryz.underlying201 C3.out.map (by rfl) ?_; intro w4 hr hg hz; have R4 := yH hr; have L4 := yH (bl_n (Below.refl w3.heap.size w3) hg); clear hr hg hz; simp only [Act.put, yA, yB, yC])
  obtain ⟨r, hr⟩ : ∃ r, r = w3.heap.size := ⟨_, rfl⟩
  have HRb := yH (show w3.heap.size ≤ r by omega)
  rw [← hr] at R4
  rw [← hr]
  clear hr hlb hle hlI c3
  go_loopg [6] K2.length (fun k ev wr => KeL w3 kb r K2 k ev wr)
  case atStart => exact ⟨i, K2, rfl, rfl, ⟨R4.out, L4.out, key_D HI.out⟩⟩
  case round =>
   obtain ⟨el, todo, hk, rfl, hX⟩ := hrel
   have X := yH hX
   have HKt := yH hk
   clear hX hk R4 L4
   have CX := yH (C3.out.below X.out.low)
   go_wp2_with (refine wpl_mnext rfl (.tmp 43) (by rfl) keyed_int X.out.rng (by rfl) lD_inj2 ?_ ?_)
   ·intro htd
    have c3 := CX.out.c3
    clear htd
    go_wp2_with (refine wpl_mdel rfl 201 (.tmp 63) (.tmp 64) (by rfl) keyed_int Tryz.underlying201 CX.out.map (by rfl) el (by rfl) (lD_inj _) X.out.key ?_; intro w5 hm hg; have T5 := yH (tch_g hg); have C5 := yH (CX.out.del hm T5.out); clear hm hg; simp only [Act.put, yA, yB, yC])
    go_end0
    exact ⟨adel K2 el, rfl, C5.out, by have := HL.out; have := adel_le K2 el; omega, (T3.out.trans (Tch.below X.out.low)).trans (T5.out.mono (fun k hk => by simp at hk; simp [hk])), fun g hg hK => (AV.out g hg hK).del _⟩
   ·intro i2 e2 todo' w1' hperm hR hg hsz hen
    have R1 := yH hR
    have L1 := yH (show Below w3.heap.size w3 w1' from X.out.low.grown hg X.out.low.size (fun k hk => by injection hk with hk; subst hk; exact HRb.out))
    have HKp := yH (show keyOf Tryz.prog 3 (kD i2) = some (lD i2) by
     have h1 := X.out.rng.owns.keys
     obtain ⟨dn, hd⟩ := X.out.rng.sub
     exact h1 (i2, e2) (hd.mem_iff.2 (List.mem_append_right _ (hperm.mem_iff.2 (List.mem_cons_self ..)))))
    have HPl := yH (show gk = todo'.length + 1 by rw [HKt.out, hperm.length_eq, List.length_cons])
    clear hperm hR hg hsz
    go_upto_region 7 with (first
     | (refine wpl_over rfl 400 (.tmp 8) (.tmp 48) (by rfl) w1'.heap.size [Value.slice e2.A 512 e2.cap, .int .i64 e2.at_] (by rfl) (by rfl) _ _ KA.out (ke_info _) (by rw [CA.out]; rfl) (by simp [Value.oneCell']) ?_; intro wC hk hg hz; have KC := yH hk; have LC := yH (bl_g LA.out hg (Nat.le_refl _)); clear hk hg hz; simp only [Act.put, yA, yB, yC])
     | (refine wpl_alloc rfl 400 (by rfl) Tryz.zeroValue400 2 (by rfl) ?_; intro wA csA hk hc hg hz; have KA := yH hk; have CA := yH hc; have LA := yH (bl_n (Below.refl w1'.heap.size w1') hg); clear hk hc hg hz; simp only [Act.put, yA, yB, yC]))
    have LD := yH (below_chain L1.out LC.out)
    have CD := yH (C3.out.below LD.out)
    have RD := yH (R1.out.tch (T := []) (Tch.below LC.out) (by simp) (by simp))
    obtain ⟨A6, m6, cap6, t6, hlk⟩ := look_ke (aget K2 el)
    have HLk := yH hlk
    have hfk := field_ke A6 m6 cap6 t6
    clear hlk hen KA CA LA
    refine wp_region_qs (fun _ w' => w'.cell? ⟨c, 3, none⟩ = some (.map (some kb)) ∧ w'.cell? ⟨w1'.heap.size, 1, none⟩ = some (.int .i64 e2.at_) ∧ MapIs Tryz.prog 3 kD lD veK w' kb K2) [(0, some 0), (1, some 0), (2, some 0), (3, some 0), (4, some 0), (5, some 0), (6, some 0), (7, some 0), (8, some 0), (9, some 0)] (by kernel_rfl) (by kernel_rfl) (by kernel_rfl) (by kernel_rfl) (by kernel_rfl) (fun _ _ _ _ _ h => h) ⟨CD.out.drew.c3, KC.out.drew.cell rfl, CD.out.drew.map⟩ ?_
    simp only [yD, yE, yF, yG]
    (repeat (first | ((refine qs_mlookD (by rfl) 201 (.tmp 54) (.tmp 55) (by rfl) keyed_int Tryz.underlying201 (by rfl) el (by rfl) zero_ke (fun j w' _ _ h => h.2.2) (lD_inj _) X.out.key _ HLk.out ?_); simp only [Act.put, yA, yB, yC]) | (refine qs_mid (v := ?_) (by rfl) ?_ ?_; rotate_left 1; (· (intro j w' hj1 hj2 hS; go_simp; (try (simp only [↓IntWalk.iteOmega]; go_simp)); (try simp (disch := omega) only [IntWalk.i64_in]); try with_reducible rfl)); simp only [Act.put, yA, yB, yC]) | (refine qs_skip (by rfl) ?_; simp only [Act.put, yA, yB, yC])))
    refine qs_nil ?_
    by_cases hlt : e2.at_ < t6
    ·go_wp2_with fail
     go_roundg (gk - 1)
     case measure => have := HPl.out; omega
     case rel => exact ⟨i2, todo', by have := HPl.out; omega, rfl, ⟨RD.out.tch (T := []) (Tch.below (Below.refl _ wC).drew) (by simp) (by simp), LD.out.drew, HKp.out⟩⟩
    ·go_wp2_with fail
     go_roundg (gk - 1)
     case measure => have := HPl.out; omega
     case rel => exact ⟨el, todo', by have := HPl.out; omega, rfl, ⟨RD.out.tch (T := []) (Tch.below (Below.refl _ wC).drew) (by simp) (by simp), LD.out.drew, X.out.key⟩⟩
end
end Go.Proofs.YtffalfacakdhkaaGreatDoor
namespace Go.Proofs.YtffalfacakdhkaaGreatDoor
open Go.RowKit Go.Maps
set_option linter.unusedVariables false
set_option linter.unusedSimpArgs false
section
variable {w w' : World} {c kb d sb ob n : Nat} {K : KM} {S O : SM} {sk : Int → Prop}
set_option maxRecDepth 100000 in
theorem add64 (a : Addr) (x : Int) (w : World) (hc : w.cell? a = some (.int .i64 x)) (hz : w.frozen? a = false) :
  Calls Tryz.prog 312 #[.pointer (some a), .int .i64 1] w fun e w' => (∃ y, e = .returned (.int .i64 y)) ∧ ∃ y, w' = w.setCell a (.int .i64 y) := by
 obtain ⟨b, off, so⟩ := a
 obtain ⟨s, hs⟩ : ∃ s, IntKind.i64.wrap (x + 1) = s := ⟨_, rfl⟩
 have hadd := run_call_add (P := Tryz.prog) Tryz.func376 (by kernel_rfl) (by kernel_rfl) (by kernel_rfl) .i64 (by kernel_rfl) (y := 1) (s := s) hc hz (by simp [go_sem]; exact hs)
 go_enter Tryz.func312, Tryz.ntmps312
 go_wp2
 go_ret
 exact ⟨⟨s, rfl⟩, s, rfl⟩
theorem CcW.mono {sk' : Int → Prop} (h : CcW w c kb d sb ob n K S O sk) (hs : ∀ k, sk k → sk' k) : CcW w c kb d sb ob n K S O sk' := ⟨h.blk, h.map, h.dk, fun p hp => ⟨(h.rows p hp).1, (h.rows p hp).2.imp (hs _) id⟩, h.nes⟩
theorem CcW.hits (h : CcW w c kb d sb ob n K S O sk) (j : Nat) (hj : j = 4 ∨ j = 5) : (∃ x, w.cell? ⟨c, j, none⟩ = some (.int .i64 x)) ∧ w.frozen? ⟨c, j, none⟩ = false ∧ ∀ y, CcW (w.setCell ⟨c, j, none⟩ (.int .i64 y)) c kb d sb ob n K S O sk := by
 obtain ⟨now, hi, mi, hb⟩ := h.blk
 rcases hj with rfl | rfl
 ·exact ⟨⟨hi, hb.cell rfl⟩, hb.free _, fun y => h.turn (tch_g (grown_put w _ _)) (by simp) ⟨now, y, mi, hb.put 4 _⟩⟩
 ·exact ⟨⟨mi, hb.cell rfl⟩, hb.free _, fun y => h.turn (tch_g (grown_put w _ _)) (by simp) ⟨now, hi, y, hb.put 5 _⟩⟩
theorem CcW.row {i : Int} {e : Ke} (h : CcW w c kb d sb ob n K S O (fun _ => False)) (he : aget K i = some e) : BSrc w e.A 512 (secL (latD S O i)) := by
 obtain ⟨h1, h2⟩ := h.rows (i, e) (aget_mem he)
 rcases h2 with h2 | h2
 ·exact h2.elim
 ·simp only at h1 h2
  rw [← h2]
  exact h1
theorem CcW.bsrc {A : Option Addr} {m : Nat} {ys : List Value} (h : CcW w c kb d sb ob n K S O sk) (hs : BSrc w A m ys) (hT : Tch [c, kb] w w') : BSrc w' A m ys := by
 obtain ⟨now, hi, mi, hb⟩ := h.blk
 refine hs.tch hT (fun b cs hk hm => ?_)
 simp only [List.mem_cons, List.not_mem_nil, or_false] at hm
 rcases hm with rfl | rfl
 ·exact blk_ne_tyD hk hb (by decide) rfl
 ·exact blk_ne_mapD h.map hk rfl
theorem CcW.own {base m sz : Nat} {v : Value} {ys : List Value} (h : CcW w c kb d sb ob n K S O sk) (ho : w.ownsRow base 5 sz v m ys) (hT : Tch [c, kb] w w') : w'.ownsRow base 5 sz v m ys := by
 obtain ⟨now, hi, mi, hb⟩ := h.blk
 refine ⟨ho.1, ho.2.imp id ?_⟩
 rintro ⟨g, cap, cur, e1, a1, a2, r⟩
 have h3 : Blk w g 5 cur := a2
 refine ⟨g, cap, cur, e1, a1, h3.tch hT (fun hm => ?_), r⟩
 simp only [List.mem_cons, List.not_mem_nil, or_false] at hm
 rcases hm with rfl | rfl
 ·exact blk_ne_tyD h3 hb (by decide) rfl
 ·exact blk_ne_mapD h.map h3 rfl
theorem own_baseD {w : World} {b1 b2 m sz : Nat} {e : TypeId} {v : Value} {ys : List Value} (ho : w.ownsRow b2 e sz v m ys) (hb : b1 ≤ b2) : w.ownsRow b1 e sz v m ys := by
 refine ⟨ho.1, ho.2.imp id ?_⟩
 rintro ⟨g, cap, cur, e1, a1, r⟩
 exact ⟨g, cap, cur, e1, Nat.le_trans hb a1, r⟩
def RdPost (w : World) (c kb d sb ob n : Nat) (K : KM) (S O : SM) (i : Int) (e : Ending) (w' : World) : Prop := ∃ v K', e = .returned (.tuple #[v, .int .i64 0]) ∧ w'.ownsRow w.heap.size 5 1 v 512 (secL (latD S O i)) ∧ CcW w' c kb d sb ob n K' S O (fun _ => False) ∧ K'.length ≤ K.length + 1 ∧ Tch [c, kb] w w' ∧ ∀ g, g < w.heap.size → Avoid K g → Avoid K' g
set_option maxRecDepth 100000 in
set_option maxHeartbeats 1000000 in
theorem cc_read (h : CcW w c kb d sb ob n K S O (fun _ => False)) (i : Nat) (hi : i < n) (hK : K.length ≤ 1000000) :
  Calls Tryz.prog 239 #[.pointer (some ⟨c, 0, none⟩), .int .i64 (i : Int)] w (RdPost w c kb d sb ob n K S O i) := by
 have H := yH h
 have HI := yH (show i < n ∧ -9223372036854775808 ≤ (i : Int) ∧ (i : Int) ≤ 9223372036854775807 from ⟨hi, by have := h.dk.rng; omega⟩)
 have HK := yH hK
 have c0 := h.c0
 have c3 := h.c3
 obtain ⟨A0, m0, cap0, at0, hv⟩ := look_ke (aget K (i : Int))
 have HV := yH hv
 have kei : (Tryz.prog.info? 400).map (·.size) = some [Value.slice A0 m0 cap0, .int .i64 at0].length := by show _ = some 2; kernel_rfl
 obtain ⟨b, hb⟩ : ∃ b, (aget K (i : Int)).isSome = b := ⟨_, rfl⟩
 have HB := yH hb
 have HR := yH (show b = true → m0 = 512 ∧ BSrc w A0 512 (secL (latD S O i)) from fun hbt => by
  subst hbt
  obtain ⟨e, he⟩ := Option.isSome_iff_exists.1 hb
  rw [he] at hv
  have h1 := h.row he
  simp only [Option.map_some, Option.getD_some, veK] at hv
  injection hv with hv
  simp only [Array.mk.injEq, List.cons.injEq, Value.slice.injEq, Value.int.injEq, and_true, true_and] at hv
  obtain ⟨⟨hA, hm, _⟩, _⟩ := hv
  rw [← hA]
  exact ⟨hm.symm, h1⟩)
 clear h hi hK hv hb
 go_enter Tryz.func239, Tryz.ntmps239
 go_upto_region 6 with (first
  | (refine wpl_over rfl 400 (.tmp 6) (.tmp 27) (by rfl) w.heap.size [Value.slice A0 m0 cap0, .int .i64 at0] (by rfl) (by rfl) _ _ KA.out kei (by rw [CA.out]; rfl) (by simp [Value.oneCell']) ?_; intro w2 hk hg hz; have K2 := yH hk; have L2 := yH (bl_g L1.out hg (Nat.le_refl _)); have C2 := yH (H.out.below L2.out); have k0 := hk.cell (i := 0) (v := .slice A0 m0 cap0) rfl; have c0 := C2.out.c0; clear hk hg hz; simp only [Act.put, yA, yB, yC])
  | (refine wpl_alloc rfl 400 (by rfl) Tryz.zeroValue400 2 (by rfl) ?_; intro w1 csA hk hc hg hz; have KA := yH hk; have CA := yH hc; have L1 := yH (bl_n (Below.refl w.heap.size w) hg); clear hk hc hg hz; simp only [Act.put, yA, yB, yC])
  | (refine wpl_mlookOk rfl 201 (.tmp 24) (.tmp 25) (by rfl) keyed_int Tryz.underlying201 H.out.map (by rfl) (i : Int) (by rfl) zero_ke (lD_inj _) (key_D HI.out.2) ?_; rewrite [HV.out, HB.out]; simp only [Act.put, yA, yB, yC])
  | (go_at_call 87; refine (dk_down H.out.dk).mono ?_; rintro e w1 ⟨rfl, rfl⟩)
  | (go_at_call 142; refine (cc_known H.out).mono ?_; rintro e w1 ⟨rfl, rfl⟩)
  )
 clear c3 kei KA CA HV
 cases b with
 | true =>
  obtain ⟨hm, hS⟩ := HR.out (by trivial)
  obtain ⟨b0, off0, rfl, _, _⟩ := hS.rng
  subst hm
  have S2 := yH (hS.below L2.out)
  obtain ⟨⟨x, hxc⟩, hzf, hturn⟩ := C2.out.hits 4 (.inl rfl)
  have HT := yH hturn
  clear hS hturn HR
  go_wp2_with (first
   | (go_at_call 102; refine (bclone_any ⟨b0, off0, none⟩ 512 cap0 S5.out.src (secL_one _) (by omega)).mono ?_; rintro e w6 ⟨v6, rfl, ho, hb⟩; have O6 := yH (own_baseD ho W5.out); have C6 := yH (C5.out.below hb); have T6 := yH (show Tch [c, kb] w w6 from T5.out.trans (Tch.below hb)); clear ho hb)
   | (go_at_call 205; refine (cc_keep (C4.out.mono (fun _ h => h.elim)) HI.out.2 S4.out HK.out).mono ?_; rintro e w5 ⟨K', rfl, hC, hl, hT, hA⟩; have AV := yH hA; have S5 := yH (C4.out.bsrc S4.out hT); have C5 := yH hC; have HL5 := yH hl; have T5 := yH (T4.out.trans hT); have W5 := yH (show w.heap.size ≤ w5.heap.size from T5.out.size); have k5 := (K4.out.tch hT (by have := blk_ne_mapD C4.out.map K4.out; obtain ⟨_, _, _, hcb⟩ := C4.out.blk; have h2 := blk_ne_tyD K4.out hcb (by decide); simp; exact ⟨h2, this⟩)).cell (i := 0) (v := .slice (some ⟨b0, off0, none⟩) 512 cap0) rfl; clear hC hl hT hA)
   | (go_at_call 312; refine (add64 ⟨c, 4, none⟩ x w2 hxc hzf).mono ?_; rintro e w4 ⟨⟨y, rfl⟩, z, hw⟩; have TW := yH (show Tch [c, kb] w2 w4 by rw [hw]; exact (tch_g (grown_put w2 ⟨c, 4, none⟩ _)).mono (by simp)); have C4 := yH (show CcW w4 c kb d sb ob n K S O (fun _ => False) by rw [hw]; exact HT.out z); have S4 := yH (C2.out.bsrc S2.out TW.out); have T4 := yH (show Tch [c, kb] w w4 from (Tch.below L2.out).trans TW.out); have K4 := yH (K2.out.tch TW.out (by have := blk_ne_mapD C2.out.map K2.out; obtain ⟨_, _, _, hcb⟩ := C2.out.blk; have h2 := blk_ne_tyD K2.out hcb (by decide); simp; exact ⟨h2, this⟩)); have k4 := K4.out.cell (i := 0) (v := .slice (some ⟨b0, off0, none⟩) 512 cap0) rfl; clear hw))
  go_ret2
  exact ⟨v6, K', rfl, O6.out, C6.out, HL5.out, T6.out, fun g hg => AV.out g (by have := T4.out.size; omega)⟩
 | false =>
  clear HR
  go_upto_region 11 with (go_at_call 313; refine (dk_read C2.out.dk i HI.out.1).mono ?_; rintro e w3 ⟨v3, rfl, ho, hb⟩; obtain ⟨A3, cap3, rfl, _⟩ := own_slice ho; have O3 := yH ho; have C3 := yH (C2.out.below hb); have L3 := yH (below_chain L2.out hb); clear ho hb)
  obtain ⟨⟨x, hxc⟩, hzf, hturn⟩ := C3.out.hits 5 (.inr rfl)
  have HT := yH hturn
  have O3' := yH (own_baseD O3.out L2.out.size)
  clear hturn
  go_wp2_with (first
   | (go_at_call 205; refine (cc_keep (C4.out.mono (fun _ h => h.elim)) HI.out.2 (BSrc.of_own O4.out (by omega)) HK.out).mono ?_; rintro e w5 ⟨K', rfl, hC, hl, hT, hA⟩; have AV := yH hA; have O5 := yH (C4.out.own O4.out hT); have C5 := yH hC; have HL5 := yH hl; have T5 := yH (T4.out.trans hT); clear hC hl hT hA)
   | (go_at_call 312; refine (add64 ⟨c, 5, none⟩ x w3 hxc hzf).mono ?_; rintro e w4 ⟨⟨y, rfl⟩, z, hw⟩; have TW := yH (show Tch [c, kb] w3 w4 by rw [hw]; exact (tch_g (grown_put w3 ⟨c, 5, none⟩ _)).mono (by simp)); have C4 := yH (show CcW w4 c kb d sb ob n K S O (fun _ => False) by rw [hw]; exact HT.out z); have O4 := yH (C3.out.own O3'.out TW.out); have T4 := yH (show Tch [c, kb] w w4 from (Tch.below L3.out).trans TW.out); clear hw))
  go_ret2
  exact ⟨_, K', rfl, O5.out, C5.out, HL5.out, T5.out, fun g hg => AV.out g (by have := T4.out.size; omega)⟩
end
end Go.Proofs.YtffalfacakdhkaaGreatDoor

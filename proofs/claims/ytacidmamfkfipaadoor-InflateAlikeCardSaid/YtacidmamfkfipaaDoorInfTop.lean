/-
  The law's examples of layer 6.
  Plain: a text that may be as long as it is; one that may not.
  What a law's listed tables give its walk.
  What Inflate hands back, as one value.
-/
import Derived.Test.YtacidmamfkfipaaDoorInflate
import Derived.Test.YtacidmamfkfipaaDoorKitBytes
import Derived.Laws.BytesArg
import Derived.Test.YtacidmamfkfipaaDoorInfSpec
import Derived.Test.YtacidmamfkfipaaDoorStored
import Derived.Test.YtacidmamfkfipaaDoorRows
import Derived.OpenShut
import Derived.LaidMore
import Derived.ProofKit
import Derived.MakeChecks
import Derived.Test.YtacidmamfkfipaaDoorRefInf
namespace Go.Proofs.YtacidmamfkfipaaDoor
open Go.RowKit
set_option linter.unusedVariables false

theorem rd_made (w : World) (t : TypeId) (bs : List Int) (cs : Array Value) (hc : cs = (bs.map (Value.int .u8)).toArray) (n : Nat) (hn : n = bs.length) : RdI .u8 (w.alloc (.cells cs t)) (some ⟨w.heap.size, 0, none⟩) n bs := by
  subst hn
  refine ⟨rfl, fun h => ⟨_, 0, rfl, by simp, fun j hj => ?_⟩⟩
  rw [Nat.zero_add]
  refine (Blk.made w t cs).cell ?_
  subst hc
  simp [hj]
theorem aw1 : inflateR (bitsOf [1, 3, 0, 252, 255, 97, 98, 99]) 3 = .ok [97, 98, 99] 64 := by kernel_rfl
theorem aw2 : inflateR (bitsOf [75, 76, 74, 6, 0]) 9 = .ok [97, 98, 99] 34 := by kernel_rfl
theorem aw3 : inflateR (bitsOf [75, 76, 74, 6, 0]) 2 = .bad true := by kernel_rfl
theorem aw4 : inflateR (bitsOf [75, 76, 74]) 9 = .bad false := by kernel_rfl
theorem bytes_dec {l : List Int} (h : l.all (fun z => decide (0 ≤ z) && decide (z < 256)) = true) : Bytes l := fun z hz => by
  have := List.all_eq_true.1 h z hz
  simpa using this
theorem conv_abc {w : World} {A : Option Addr} {c : Nat} (h : RdI .u8 w A 3 [97, 98, 99]) : (convert 22 9 (.slice A 3 c)).run Tryd.prog w = .ok (.string { data := #[97, 98, 99] }) w := by
  obtain ⟨b, off, rfl, _, hc⟩ := h.2 (by omega)
  exact run_convert_bytes_arg (P := Tryd.prog) w 22 5 Tryd.underlying22 Tryd.underlying5 b off 3 c [97, 98, 99] rfl hc 9 Tryd.underlying9
def AwPost (w : World) (ev : Ending) (w' : World) : Prop := ev = .returned (.bool true) ∧ Below w.heap.size w w'
set_option maxHeartbeats 1600000 in
set_option maxRecDepth 100000 in
theorem awake_any (w : World) (ht : TabsOk w) : Calls Tryd.prog 8 #[] w (AwPost w) := by
  have TB := Lib.hid ht
  clear ht
  go_enter Tryd.func8, Tryd.ntmps8
  go_wp2_with fail
  have B1 := Lib.hid ((Below.refl w.heap.size w).alloc (Nat.le_refl _) (.cells #[.int .u8 1, .int .u8 3, .int .u8 0, .int .u8 252, .int .u8 255, .int .u8 97, .int .u8 98, .int .u8 99] 5))
  refine (inflate_any [1, 3, 0, 252, 255, 97, 98, 99] _ 8 8 3 _ (rd_made w _ _ _ rfl 8 rfl) (bytes_dec rfl) (by omega) (TB.out.below B1.out)).mono ?_
  rintro ev w1 ⟨hb1, ha1⟩
  rw [if_neg (by omega), show (3 : Int).toNat = 3 from rfl, aw1] at ha1
  obtain ⟨A1, c1, rfl, o1, -⟩ := ha1
  have M1 := Lib.hid (below_chain B1.out hb1)
  have R1 := Lib.hid (RdI.of_own o1)
  clear hb1 o1 B1
  go_wp2_with fail
  have B2 := Lib.hid ((Below.refl w1.heap.size w1).alloc (Nat.le_refl _) (.cells #[.int .u8 75, .int .u8 76, .int .u8 74, .int .u8 6, .int .u8 0] 5))
  refine (inflate_any [75, 76, 74, 6, 0] _ 5 5 9 _ (rd_made w1 _ _ _ rfl 5 rfl) (bytes_dec rfl) (by omega) ((TB.out.below M1.out).below B2.out)).mono ?_
  rintro ev w2 ⟨hb2, ha2⟩
  rw [if_neg (by omega), show (9 : Int).toNat = 9 from rfl, aw2] at ha2
  obtain ⟨A2, c2, rfl, o2, -⟩ := ha2
  have N2 := Lib.hid (below_chain B2.out hb2)
  have M2 := Lib.hid (below_chain M1.out N2.out)
  have R2 := Lib.hid (RdI.of_own o2)
  clear hb2 o2 B2
  go_wp2_with fail
  have B3 := Lib.hid ((Below.refl w2.heap.size w2).alloc (Nat.le_refl _) (.cells #[.int .u8 75, .int .u8 76, .int .u8 74, .int .u8 6, .int .u8 0] 5))
  refine (inflate_any [75, 76, 74, 6, 0] _ 5 5 2 _ (rd_made w2 _ _ _ rfl 5 rfl) (bytes_dec rfl) (by omega) ((TB.out.below M2.out).below B3.out)).mono ?_
  rintro ev w3 ⟨hb3, ha3⟩
  rw [if_neg (by omega), show (2 : Int).toNat = 2 from rfl, aw3] at ha3
  obtain rfl := ha3
  have N3 := Lib.hid (below_chain B3.out hb3)
  have M3 := Lib.hid (below_chain M2.out N3.out)
  clear hb3 B3
  go_wp2_with fail
  have B4 := Lib.hid ((Below.refl w3.heap.size w3).alloc (Nat.le_refl _) (.cells #[.int .u8 75, .int .u8 76, .int .u8 74] 5))
  refine (inflate_any [75, 76, 74] _ 3 3 9 _ (rd_made w3 _ _ _ rfl 3 rfl) (bytes_dec rfl) (by omega) ((TB.out.below M3.out).below B4.out)).mono ?_
  rintro ev w4 ⟨hb4, ha4⟩
  rw [if_neg (by omega), show (9 : Int).toNat = 9 from rfl, aw4] at ha4
  obtain rfl := ha4
  have N4 := Lib.hid (below_chain B4.out hb4)
  have M4 := Lib.hid (below_chain M3.out N4.out)
  clear hb4 B4
  have v1 := conv_abc (c := c1) ((R1.out.below (N2.out)).below N3.out |>.below N4.out)
  have v2 := conv_abc (c := c2) (R2.out.below N3.out |>.below N4.out)
  go_wp2
  go_ret
  exact ⟨rfl, M4.out⟩
end Go.Proofs.YtacidmamfkfipaaDoor
namespace Go.Proofs.YtacidmamfkfipaaDoor
set_option linter.unusedVariables false

def Grows (n : Nat) (R : Res (List Int)) : Prop := ∀ a p, R = .ok a p → n ≤ a.length
/-- R is read where more may be, S where m may be. -/
def Lim (m : Nat) (R S : Res (List Int)) : Prop := ∀ a p, R = .ok a p → (a.length ≤ m → S = .ok a p) ∧ (m < a.length → S = .bad true)
theorem Grows.bind {n : Nat} {R : Res (List Int)} {G : List Int → Nat → Res (List Int)} (h : Grows n R) (hg : ∀ a p, Grows a.length (G a p)) : Grows n (R.bind G) := fun b q hb => by
  obtain ⟨a, p, h1, h2⟩ := bind_ok hb
  exact Nat.le_trans (h a p h1) (hg a p b q h2)
theorem grows_any {α : Type} {n : Nat} {R : Res α} {G : α → Nat → Res (List Int)} (hg : ∀ a p, Grows n (G a p)) : Grows n (R.bind G) := fun b q hb => by
  obtain ⟨a, p, h1, h2⟩ := bind_ok hb
  exact hg a p b q h2
theorem lim_any {α : Type} {m : Nat} {R : Res α} {G H : α → Nat → Res (List Int)} (hg : ∀ a p, Lim m (G a p) (H a p)) : Lim m (R.bind G) (R.bind H) := fun b q hb => by
  obtain ⟨a, p, h1, h2⟩ := bind_ok hb
  subst h1
  exact hg a p b q h2
theorem Lim.bind {m : Nat} {R S : Res (List Int)} {G H : List Int → Nat → Res (List Int)} (h : Lim m R S) (hl : ∀ a p, Grows a.length (G a p)) (hg : ∀ a p, a.length ≤ m → Lim m (G a p) (H a p)) : Lim m (R.bind G) (S.bind H) := fun b q hb => by
  obtain ⟨a, p, h1, h2⟩ := bind_ok hb
  obtain ⟨k1, k2⟩ := h a p h1
  have hgr := hl a p b q h2
  by_cases ha : a.length ≤ m
  · rw [k1 ha]
    exact hg a p ha b q h2
  · rw [k2 (by omega)]
    exact ⟨fun hb => by omega, fun _ => rfl⟩
theorem lim_bad (m : Nat) (b : Bool) (S : Res (List Int)) : Lim m (.bad b) S := fun a p h => by cases h
theorem grows_bad (n : Nat) (b : Bool) : Grows n (.bad b) := fun a p h => by cases h
theorem grows_ok {n : Nat} {a : List Int} (h : n ≤ a.length) (p : Nat) : Grows n (.ok a p) := fun b q hb => by
  injection hb with h1 h2
  subst h1
  exact h
theorem lim_ok {m : Nat} {a : List Int} (p : Nat) (h : a.length ≤ m) : Lim m (.ok a p) (.ok a p) := fun b q hb => by
  injection hb with h1 h2
  subst h1; subst h2
  exact ⟨fun _ => rfl, fun hm => by omega⟩
theorem copyR_length (out : List Int) (far : Nat) : ∀ n, (copyR out far n).length = out.length + n
  | 0 => rfl
  | n + 1 => by rw [copyR, List.length_append, copyR_length out far n]; rfl
/-- A row of just so many bytes more, where they may be. -/
theorem lim_test {M m k : Nat} {a : List Int} (p : Nat) (hk : a.length = k) : Lim m (if M < k then .bad true else .ok a p) (if m < k then .bad true else .ok a p) := by
  intro b q hb
  split at hb
  · cases hb
  · injection hb with h1 h2
    subst h1; subst h2
    rw [hk]
    refine ⟨fun h => if_neg (by omega), fun h => if_pos h⟩
theorem grows_test {M n k : Nat} {a : List Int} (p : Nat) (h : n ≤ a.length) : Grows n (if M < k then .bad true else .ok a p) := by
  intro b q hb
  split at hb
  · cases hb
  · injection hb with h1 h2
    subst h1
    exact h

theorem bytesR_length (bt : List Int) (p n : Nat) : (bytesR bt p n).length = n := by simp [bytesR]
theorem storedR_grows (bt : List Int) (M : Nat) (out : List Int) (p : Nat) : Grows out.length (storedR bt M out p) := by
  unfold storedR
  refine grows_any fun n p => grows_any fun m2 p => ?_
  split
  · exact grows_bad _ _
  · exact grows_test _ (by rw [List.length_append]; omega)
theorem storedR_lim (bt : List Int) (M m : Nat) (out : List Int) (p : Nat) : Lim m (storedR bt M out p) (storedR bt m out p) := by
  unfold storedR
  refine lim_any fun n p => lim_any fun m2 p => ?_
  split
  · exact lim_bad _ _ _
  · exact lim_test _ (by rw [List.length_append, bytesR_length])
theorem matchR_grows (bt : List Int) (M : Nat) (ds out : List Int) (v p : Nat) : Grows out.length (matchR bt M ds out v p) := by
  unfold matchR
  split
  · exact grows_bad _ _
  refine grows_any fun n p => grows_any fun k p => ?_
  split
  · exact grows_bad _ _
  refine grows_any fun y p => ?_
  split
  · exact grows_bad _ _
  · exact grows_test _ (by rw [copyR_length]; omega)
theorem matchR_lim (bt : List Int) (M m : Nat) (ds out : List Int) (v p : Nat) : Lim m (matchR bt M ds out v p) (matchR bt m ds out v p) := by
  unfold matchR
  split
  · exact lim_bad _ _ _
  refine lim_any fun n p => lim_any fun k p => ?_
  split
  · exact lim_bad _ _ _
  refine lim_any fun y p => ?_
  split
  · exact lim_bad _ _ _
  · exact lim_test _ (copyR_length _ _ _)
theorem symsR_grows (bt : List Int) (M : Nat) (zs ds : List Int) : ∀ (f : Nat) (out : List Int) (p : Nat), Grows out.length (symsR bt M zs ds f out p)
  | 0, _, _ => grows_bad _ _
  | f + 1, out, p => by
    rw [symsR]
    refine grows_any fun s p => ?_
    split
    · exact grows_ok (Nat.le_refl _) _
    split
    · exact (matchR_grows bt M ds out (s - 257) p).bind fun a p => symsR_grows bt M zs ds f a p
    split
    · exact grows_bad _ _
    · intro b q hb
      have := symsR_grows bt M zs ds f _ _ b q hb
      rw [List.length_append] at this
      omega
theorem symsR_lim (bt : List Int) (M m : Nat) (zs ds : List Int) : ∀ (f : Nat) (out : List Int) (p : Nat), out.length ≤ m → Lim m (symsR bt M zs ds f out p) (symsR bt m zs ds f out p)
  | 0, _, _, _ => lim_bad _ _ _
  | f + 1, out, p, ho => by
    rw [symsR, symsR]
    refine lim_any fun s p => ?_
    split
    · exact lim_ok _ ho
    split
    · exact (matchR_lim bt M m ds out (s - 257) p).bind (fun a p => symsR_grows bt M zs ds f a p) (fun a p ha => symsR_lim bt M m zs ds f a p ha)
    split
    · exact lim_bad _ _ _
    · intro b q hb
      by_cases hm : m < out.length + 1
      · rw [if_pos hm]
        have := symsR_grows bt M zs ds f _ _ b q hb
        rw [List.length_append] at this
        simp only [List.length_cons, List.length_nil] at this
        exact ⟨fun h => by omega, fun _ => rfl⟩
      · rw [if_neg hm]
        exact symsR_lim bt M m zs ds f _ _ (by rw [List.length_append]; simp only [List.length_cons, List.length_nil]; omega) b q hb
theorem codedR_grows (bt : List Int) (M : Nat) (zs ds out : List Int) (p : Nat) : Grows out.length (codedR bt M zs ds out p) := by
  unfold codedR
  split
  · exact symsR_grows _ _ _ _ _ _ _
  · exact grows_bad _ _
theorem codedR_lim (bt : List Int) (M m : Nat) (zs ds out : List Int) (p : Nat) (ho : out.length ≤ m) : Lim m (codedR bt M zs ds out p) (codedR bt m zs ds out p) := by
  unfold codedR
  split
  · exact symsR_lim _ _ _ _ _ _ _ _ ho
  · exact lim_bad _ _ _
theorem dynamicR_grows (bt : List Int) (M : Nat) (out : List Int) (p : Nat) : Grows out.length (dynamicR bt M out p) := by
  unfold dynamicR
  refine grows_any fun n p => grows_any fun m2 p => grows_any fun c p => ?_
  split
  · exact grows_bad _ _
  refine grows_any fun sh p => ?_
  split
  · refine grows_any fun all p => ?_
    split
    · exact grows_bad _ _
    · exact codedR_grows _ _ _ _ _ _
  · exact grows_bad _ _
theorem dynamicR_lim (bt : List Int) (M m : Nat) (out : List Int) (p : Nat) (ho : out.length ≤ m) : Lim m (dynamicR bt M out p) (dynamicR bt m out p) := by
  unfold dynamicR
  refine lim_any fun n p => lim_any fun m2 p => lim_any fun c p => ?_
  split
  · exact lim_bad _ _ _
  refine lim_any fun sh p => ?_
  split
  · refine lim_any fun all p => ?_
    split
    · exact lim_bad _ _ _
    · exact codedR_lim _ _ _ _ _ _ _ ho
  · exact lim_bad _ _ _
theorem blockR_grows (bt : List Int) (M kind : Nat) (out : List Int) (p : Nat) : Grows out.length (if kind = 0 then storedR bt M out p else if kind = 1 then codedR bt M fixedL fixedD out p else if kind = 2 then dynamicR bt M out p else .bad false) := by
  split
  · exact storedR_grows _ _ _ _
  split
  · exact codedR_grows _ _ _ _ _ _
  split
  · exact dynamicR_grows _ _ _ _
  · exact grows_bad _ _
theorem blockR_lim (bt : List Int) (M m kind : Nat) (out : List Int) (p : Nat) (ho : out.length ≤ m) : Lim m (if kind = 0 then storedR bt M out p else if kind = 1 then codedR bt M fixedL fixedD out p else if kind = 2 then dynamicR bt M out p else .bad false)
    (if kind = 0 then storedR bt m out p else if kind = 1 then codedR bt m fixedL fixedD out p else if kind = 2 then dynamicR bt m out p else .bad false) := by
  split
  · exact storedR_lim _ _ _ _ _
  split
  · exact codedR_lim _ _ _ _ _ _ _ ho
  split
  · exact dynamicR_lim _ _ _ _ _ ho
  · exact lim_bad _ _ _
theorem blocksR_grows (bt : List Int) (M : Nat) : ∀ (f : Nat) (out : List Int) (p : Nat), Grows out.length (blocksR bt M f out p)
  | 0, _, _ => grows_bad _ _
  | f + 1, out, p => by
    rw [blocksR]
    refine grows_any fun last p => grows_any fun kind p => ?_
    refine (blockR_grows bt M kind out p).bind fun a p => ?_
    split
    · exact blocksR_grows bt M f a p
    · exact grows_ok (Nat.le_refl _) _
theorem blocksR_lim (bt : List Int) (M m : Nat) : ∀ (f : Nat) (out : List Int) (p : Nat), out.length ≤ m → Lim m (blocksR bt M f out p) (blocksR bt m f out p)
  | 0, _, _, _ => lim_bad _ _ _
  | f + 1, out, p, ho => by
    rw [blocksR, blocksR]
    refine lim_any fun last p => lim_any fun kind p => ?_
    refine (blockR_lim bt M m kind out p ho).bind (fun a p => ?_) (fun a p ha => ?_)
    · split
      · exact blocksR_grows bt M f a p
      · exact grows_ok (Nat.le_refl _) _
    · split
      · exact blocksR_lim bt M m f a p ha
      · exact lim_ok _ ha
/-- A text is read whole if as many bytes may be, and refused as too long if fewer may. -/
theorem inflateR_lim {bt a : List Int} {M p : Nat} (h : inflateR bt M = .ok a p) : inflateR bt a.length = .ok a p ∧ ∀ m, m < a.length → inflateR bt m = .bad true :=
  ⟨(blocksR_lim bt M a.length _ [] 0 (Nat.zero_le _) a p h).1 (Nat.le_refl _), fun m hm => (blocksR_lim bt M m _ [] 0 (Nat.zero_le _) a p h).2 hm⟩
end Go.Proofs.YtacidmamfkfipaaDoor
namespace Go.Proofs.YtacidmamfkfipaaDoor
open Go.ChangeShapes Go.WideShapes Go.ChangeAt Go.RowKit
set_option linter.unusedVariables false

theorem laid_head {P : Program} {n : String} {d : DataW Unit} {r : List (String × DataW Unit)} {ps : List MemPlace} {W : World} (h : DataW.LaidVars P W ((n, d) :: r) ps) {g : Nat} {t e : TypeId} {N : Nat} {l : List Int}
    (hg : P.globalNamed n = some g) (ht : (P.globals[g]?).map (·.type) = some t) (hu : P.underlying t = some (.array N e)) (he : P.underlying e = some (.int .i64)) (hc : P.cellsOf e = 1) (hN : l.length = N) (hd : d = .agg (l.map fun z => .lit (.int .i64 z))) :
    TabAt W g l ∧ ∃ q, DataW.LaidVars P W r q := by
  obtain ⟨g0, t0, cs0, f0, p0, q0, hg0, ht0, hv0, hd0, hr, _⟩ := h
  obtain rfl := Option.some.inj (hg.symm.trans hg0)
  obtain rfl := Option.some.inj (ht.symm.trans ht0)
  refine ⟨fun i hi => ?_, q0, hr⟩
  obtain ⟨xs, m1, rfl, hx1, hlen, hn3, hel⟩ := DataW.trod_array hu hd0
  rw [hd] at hx1
  injection hx1 with hx1 _
  injection hx1 with hx1
  have hi2 : i < N := by omega
  have h0 := hel i hi2
  have hx : xs[i]? = some (xs[i]'(by omega)) := by simp
  rw [hx] at h0
  obtain ⟨k, e1, e2, _⟩ := DataW.trod_int he h0
  have hk : k = l.getD i 0 := by
    have h3 : (xs.map (·.1))[i]? = (l.map fun z => (DataW.lit (Lit.int .i64 z) : DataW Unit))[i]? := by rw [← hx1]
    rw [List.getElem?_map, hx, List.getElem?_map, List.getElem?_eq_getElem hi, e2] at h3
    simp only [Option.map_some, Option.some.injEq] at h3
    injection h3 with h3
    injection h3 with _ h3
    simp [hi, h3]
  rw [World.var?_cell hg hv0 i, ← hk]
  rw [hc, Nat.mul_one] at e1
  have h4 : (cs0.toList.drop i)[0]? = some (.int .i64 k) := by
    have h5 : ((cs0.toList.drop i).take 1)[0]? = some (.int .i64 k) := by rw [e1]; rfl
    rwa [List.getElem?_take_of_lt (by omega)] at h5
  rw [List.getElem?_drop] at h4
  simpa using h4
def laidT : List (String × DataW Unit) := [("peatbank/inflate.lengthBases", Rows.laid_peatbank_inflate_lengthBases), ("peatbank/inflate.lengthBits", Rows.laid_peatbank_inflate_lengthBits), ("peatbank/inflate.distBases", Rows.laid_peatbank_inflate_distBases), ("peatbank/inflate.distBits", Rows.laid_peatbank_inflate_distBits), ("peatbank/inflate.order", Rows.laid_peatbank_inflate_order)]
theorem at_heap {W : World} {g i : Nat} {v : Value} (h : W.cell? ⟨g, i, none⟩ = some v) : g < W.heap.size := by
  rcases Nat.lt_or_ge g W.heap.size with h1 | h1
  · exact h1
  · exfalso
    unfold World.cell? at h
    simp only [Array.getElem?_eq_none h1] at h
    cases h
theorem tabs_of_laid {W : World} (h : laidMetH Tryd.prog laidT W) : TabsOk W := by
  rw [MakeChecks.laidMetH_plain _ _ _ (by kernel_rfl)] at h
  obtain ⟨ps, h1, _, _⟩ := h
  have a0 : (Tryd.prog.globals[1]?).map (·.type) = some 157 := by kernel_rfl
  have a1 : (Tryd.prog.globals[2]?).map (·.type) = some 157 := by kernel_rfl
  have a2 : (Tryd.prog.globals[3]?).map (·.type) = some 158 := by kernel_rfl
  have a3 : (Tryd.prog.globals[4]?).map (·.type) = some 158 := by kernel_rfl
  have a4 : (Tryd.prog.globals[0]?).map (·.type) = some 113 := by kernel_rfl
  have ci : Tryd.prog.cellsOf 3 = 1 := by kernel_rfl
  obtain ⟨t1, q, h2⟩ := laid_head (l := lbases) h1 (show Tryd.prog.globalNamed "peatbank/inflate.lengthBases" = some 1 by kernel_rfl) a0 Tryd.underlying157 Tryd.underlying3 ci rfl rfl
  obtain ⟨t2, q, h3⟩ := laid_head (l := lbits) h2 (show Tryd.prog.globalNamed "peatbank/inflate.lengthBits" = some 2 by kernel_rfl) a1 Tryd.underlying157 Tryd.underlying3 ci rfl rfl
  obtain ⟨t3, q, h4⟩ := laid_head (l := dbases) h3 (show Tryd.prog.globalNamed "peatbank/inflate.distBases" = some 3 by kernel_rfl) a2 Tryd.underlying158 Tryd.underlying3 ci rfl rfl
  obtain ⟨t4, q, h5⟩ := laid_head (l := dbits) h4 (show Tryd.prog.globalNamed "peatbank/inflate.distBits" = some 4 by kernel_rfl) a3 Tryd.underlying158 Tryd.underlying3 ci rfl rfl
  obtain ⟨t5, q, h6⟩ := laid_head (l := orderL) h5 (show Tryd.prog.globalNamed "peatbank/inflate.order" = some 0 by kernel_rfl) a4 Tryd.underlying113 Tryd.underlying3 ci rfl rfl
  have b1 := at_heap (t1 0 (by decide))
  have b2 := at_heap (t2 0 (by decide))
  have b3 := at_heap (t3 0 (by decide))
  have b4 := at_heap (t4 0 (by decide))
  have b5 := at_heap (t5 0 (by decide))
  exact ⟨t1, t2, t3, t4, t5, by omega⟩
end Go.Proofs.YtacidmamfkfipaaDoor
namespace Go.Proofs.YtacidmamfkfipaaDoor
open Go.RowKit
set_option linter.unusedVariables false

def infOut (bs : List Int) (most : Int) : List Int × Int × Int :=
  if most < 0 ∨ 65536 < most then ([], 0, 2) else match inflateR (bitsOf bs) most.toNat with
    | .ok out p => (out, (((p + 7) / 8 : Nat) : Int), 0)
    | .bad b => ([], 0, errOf b)
theorem infOut_len (bs : List Int) (most : Int) : (infOut bs most).1.length ≤ 65536 := by
  unfold infOut
  split
  · simp
  · rename_i h
    split
    · rename_i out p ho
      rcases Nat.lt_or_ge 65536 out.length with h1 | h1
      · have := (inflateR_lim ho).2 most.toNat (by omega)
        rw [this] at ho
        cases ho
      · exact h1
    · simp
theorem InfPost.out {bs : List Int} {most : Int} {w : World} {ev : Ending} {w' : World} (h : InfPost bs most w ev w') :
    ∃ A c, ev = .returned (.tuple #[.slice A (infOut bs most).1.length c, .int .i64 (infOut bs most).2.1, .int .i64 (infOut bs most).2.2]) ∧ w'.ownsRow w.heap.size 5 1 (.slice A (infOut bs most).1.length c) (infOut bs most).1.length ((infOut bs most).1.map (Value.int .u8)) ∧ Bytes (infOut bs most).1 ∧ Below w.heap.size w w' := by
  obtain ⟨hb, h⟩ := h
  unfold infOut
  by_cases hm : most < 0 ∨ 65536 < most
  · rw [if_pos hm] at h
    rw [if_pos hm]
    exact ⟨none, 0, h, ⟨rfl, .inl ⟨rfl, rfl⟩⟩, (fun z hz => by cases hz), hb⟩
  · rw [if_neg hm] at h
    rw [if_neg hm]
    cases hR : inflateR (bitsOf bs) most.toNat with
    | ok out p =>
      rw [hR] at h
      obtain ⟨A, c, h1, h2, h3⟩ := h
      exact ⟨A, c, h1, h2, h3, hb⟩
    | bad b =>
      rw [hR] at h
      exact ⟨none, 0, h, ⟨rfl, .inl ⟨rfl, rfl⟩⟩, (fun z hz => by cases hz), hb⟩
/-- The beginning of a row. -/
theorem rd_prefix {k : IntKind} {w : World} {A : Option Addr} {n m : Nat} {zs ys : List Int} (h : RdI k w A (n + m) (zs ++ ys)) (hz : zs.length = n) : RdI k w A n zs := by
  refine ⟨hz, fun hn => ?_⟩
  obtain ⟨b, off, rfl, hlt, hc⟩ := h.2 (by omega)
  refine ⟨b, off, rfl, hlt, fun j hj => ?_⟩
  rw [hc j (by omega)]
  congr 2
  simp [List.getD, List.getElem?_append_left (show j < zs.length by omega)]
theorem rd_own_prefix {k : IntKind} {w : World} {base g n m c : Nat} {e : TypeId} {zs ys : List Int} (h : w.ownsRow base e 1 (.slice (some ⟨g, 0, none⟩) (n + m) c) (n + m) ((zs ++ ys).map (Value.int k))) (hz : zs.length = n) : RdI k w (some ⟨g, 0, none⟩) n zs :=
  rd_prefix (RdI.of_own h) hz
end Go.Proofs.YtacidmamfkfipaaDoor
namespace Go.Proofs.YtacidmamfkfipaaDoor
open Go.RowKit
theorem bytes_wf6 {l : List Int} (h : ∀ n ∈ l, (Lit.int .u8 n).wf = true) : Bytes l := by
  intro z hz
  have := h z hz
  simp only [Lit.wf, decide_eq_true_eq, Bool.and_eq_true] at this
  simp [IntKind.min, IntKind.max, IntKind.bits, IntKind.signed] at this
  omega
theorem len_max {n c : Nat} (h : n ≤ c) (h2 : c ≤ maxLen) : n ≤ 9223372036854775807 := by unfold maxLen at h2; omega
/-- The door's own heap meets the condition. -/
theorem door_met (os : Os) (args : Array Value) : laidMetH Tryd.prog laidT ((World.doorLaid Tryd.prog 400 os).forCall (fun _ _ => 0) ⟨#[], args, []⟩).memory :=
  laidMetH_of_parts3 (fuel := 8) (laidMet_of_run' 8 (by kernel_rfl) (by kernel_rfl)) (by kernel_rfl) (by kernel_rfl)
end Go.Proofs.YtacidmamfkfipaaDoor

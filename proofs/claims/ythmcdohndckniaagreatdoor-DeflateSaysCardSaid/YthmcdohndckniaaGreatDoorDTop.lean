/-
  What a law's listed tables give its walk, for deflate; the law's own 'says'; the chapter's examples.
-/
import Derived.Test.YthmcdohndckniaaGreatDoorDefl
import Derived.Test.YthmcdohndckniaaGreatDoorInfB
import Derived.Test.YthmcdohndckniaaGreatDoorRefC
import Derived.Test.YthmcdohndckniaaGreatDoorKitBytes
import Derived.Test.YthmcdohndckniaaGreatDoorRows
import Derived.OpenShut
import Derived.LaidMore
import Derived.MakeChecks
namespace Go.Proofs.YthmcdohndckniaaGreatDoor
open Go.RowKit
set_option linter.unusedVariables false

theorem infOut_reads {s b : List Int} (h : Reads s b) {m : Int} (h1 : (b.length : Int) ≤ m) (h2 : m ≤ 65536) : infOut s m = (b, (s.length : Int), 0) := by
  obtain ⟨_, p, hp, hr⟩ := h
  have h3 := hr [] m.toNat (by omega)
  rw [List.append_nil] at h3
  unfold infOut
  rw [if_neg (by omega), h3]
  simp only [hp]
def TruePost (w : World) (ev : Ending) (w' : World) : Prop := ev = .returned (.bool true) ∧ Below w.heap.size w w'
/-- What is read of a stream that is read as b. -/
def ReadsPost (s b : List Int) (w : World) (ev : Ending) (w' : World) : Prop :=
  ∃ A c, ev = .returned (.tuple #[.slice A b.length c, .int .i64 (s.length : Int), .int .i64 0]) ∧ w'.ownsRow w.heap.size 5 1 (.slice A b.length c) b.length (b.map (Value.int .u8)) ∧ Below w.heap.size w w'
theorem reads_post {s b : List Int} {most : Int} {w w' : World} {ev : Ending} (hr : Reads s b) (h1 : (b.length : Int) ≤ most) (h2 : most ≤ 65536) (hp : InfPost s most w ev w') : ReadsPost s b w ev w' := by
  obtain ⟨A, c, h3, h4, _, h5⟩ := hp.out
  rw [infOut_reads hr h1 h2] at h3 h4
  exact ⟨A, c, h3, h4, h5⟩
theorem rreads_any (s b : List Int) (A : Option Addr) (n c : Nat) (m : Int) (w : World) (hs : RdI .u8 w A n s) (hr : Reads s b) (hn : n ≤ 1000000) (h1 : (b.length : Int) ≤ m) (h2 : m ≤ 65536) :
    Calls Tryz.prog 18 #[.slice A n c, .int .i64 m] w (ReadsPost s b w) :=
  (rinflate_any s A n c m w hs hr.1 (by omega)).mono fun ev w' hp => reads_post hr h1 h2 hp
set_option maxHeartbeats 800000 in
theorem says_any (s b : List Int) (A : Option Addr) (n c : Nat) (B : Option Addr) (m d : Nat) (w : World) (hs : RdI .u8 w A n s) (hb : RdI .u8 w B m b) (hr : Reads s b) (hn : n ≤ 1000000) (hm : m ≤ 65536) :
    Calls Tryz.prog 10 #[.slice A n c, .slice B m d] w (TruePost w) := by
  have HB := Lib.hid hb
  have hsn := hs.1
  have hbm := hb.1
  have HI := Lib.hid (rreads_any s b A n c (m : Int) w hs hr hn (by omega) (by omega))
  clear hs hb hr
  subst hsn hbm
  go_enter Tryz.func10, Tryz.ntmps10
  go_wp2_with fail
  refine HI.out.mono ?_
  rintro ev w2 ⟨A2, c2, rfl, o2, hb2⟩
  have O2 := Lib.hid o2
  have B2 := Lib.hid hb2
  clear o2 hb2 HI
  go_wp2_with fail
  refine (same_bytes b b B A2 b.length b.length d c2 w2 (HB.out.below B2.out) (RdI.of_own O2.out) (by omega) (by omega)).mono ?_
  rintro ev w3 ⟨rfl, hb3⟩
  have B3 := Lib.hid (below_chain B2.out hb3)
  clear hb3
  have ds : decide (b = b) = true := by simp
  go_wp2
  go_ret
  exact ⟨rfl, B3.out⟩
theorem wpList_guarded {P : Program} {ops : Array Oper} {rest : List Oper} {o : Oper} {a : Act} {w : World} {Q : Exit → Act → World → Prop} (hw : Region.wanted o (yielded ops a.tmps) = true) (h : wpList P ops Q ({ o with guard := none } :: rest) a w) : wpList P ops Q (o :: rest) a w := by
  have hw' : Region.wanted { o with guard := none } (yielded ops a.tmps) = true := rfl
  unfold wpList at h ⊢
  rw [if_pos hw'] at h
  rw [if_pos hw]
  exact h
theorem bytes_rep (n : Nat) {c : Int} (h : 0 ≤ c ∧ c < 256) : ∀ z ∈ List.replicate n c, 0 ≤ z ∧ z < 256 := fun z hz => by rw [List.eq_of_mem_replicate hz]; exact h
theorem rd_rep {w : World} {base g n : Nat} (h : w.ownsRow base 5 1 (.slice (some ⟨g, 0, none⟩) n n) n (List.replicate n (.int .u8 0))) : RdI .u8 w (some ⟨g, 0, none⟩) n (List.replicate n 0) :=
  RdI.of_own (c := n) (base := base) (e := 5) (by rw [List.map_replicate]; exact h)
set_option maxHeartbeats 1600000 in
set_option maxRecDepth 100000 in
theorem awake07_any (w : World) (ht : DTabs w) : Calls Tryz.prog 4 #[] w (TruePost w) := by
  have HT := Lib.hid ht
  clear ht
  have h0 := bestB_facts (b := []) (fun z hz => by cases hz) (by simp)
  have h3 := bestB_facts (b := List.replicate 300 0) (bytes_rep 300 (by omega)) (by simp)
  have h3r := bestB_runs 300 (c := 0) (by omega) (by omega)
  have l0 : (bestB []).length ≤ 5 := h0.2.1
  have l3 : (bestB (List.replicate 300 0)).length ≤ 19 := h3r
  have R0 := Lib.hid h0.1
  have R3 := Lib.hid h3.1
  have BR := Lib.hid (bytes_rep 300 (c := 0) (by omega))
  have hrl : (List.replicate 300 (0 : Int)).length = 300 := List.length_replicate
  clear h0 h3 h3r
  generalize hZ : List.replicate 300 (0 : Int) = Z at *
  have HZ := Lib.hid hZ
  clear hZ
  generalize hS0 : bestB [] = S0 at *
  generalize hS3 : bestB Z = S3 at *
  have HS0 := Lib.hid hS0
  have HS3 := Lib.hid hS3
  clear hS0 hS3
  go_enter Tryz.func4, Tryz.ntmps4
  go_wp2_with fail
  refine (deflate_any [] none 0 0 w (RdI.nil none) (fun z hz => by cases hz) (by omega) (by omega) HT.out).mono ?_
  rintro ev w1 ⟨v1, rfl, hv1, hb1⟩
  rw [HS0.out] at hv1
  obtain ⟨A1, c1, rfl, hc1, ho1⟩ := hv1
  have O1 := Lib.hid ho1
  have B1 := Lib.hid hb1
  clear ho1 hb1
  go_wp2_with (at_make; refine heldG ?_)
  unfold HeldG
  refine mk_bytes rfl (.const (.int .i64 300)) (.const (.int .i64 300)) rfl w.heap.size 300 _ _ rfl rfl rfl rfl (by omega) B1.out.size ?_
  intro w2 ho2 hg2
  have B2 := Lib.hid (B1.out.grown hg2 B1.out.size (fun k hk => by cases hk))
  have r2 := rd_rep ho2
  rw [HZ.out] at r2
  have RZ2 := Lib.hid r2
  have L12 := Lib.hid (show Below w1.heap.size w1 w2 from (Below.refl _ _).grown hg2 (Nat.le_refl _) (fun k hk => by cases hk))
  clear ho2 hg2 r2
  go_wp2_with fail
  refine (deflate_any Z (some ⟨w1.heap.size, 0, none⟩) 300 300 w2 RZ2.out BR.out (by omega) (by omega) (HT.out.below B2.out)).mono ?_
  rintro ev w3 ⟨v3, rfl, hv3, hb3⟩
  rw [HS3.out] at hv3
  obtain ⟨A3, c3, rfl, hc3, ho3⟩ := hv3
  have O3 := Lib.hid ho3
  have B3 := Lib.hid (B2.out.trans (hb3.mono B2.out.size))
  have L13 := Lib.hid (show Below w1.heap.size w1 w3 from L12.out.trans (hb3.mono L12.out.size))
  clear ho3 hb3 RZ2 L12
  go_wp2_with (at_make; refine heldG ?_)
  unfold HeldG
  refine mk_bytes rfl (.const (.int .i64 65537)) (.const (.int .i64 65537)) rfl w.heap.size 65537 _ _ rfl rfl rfl rfl (by omega) B3.out.size ?_
  intro w4 ho4 hg4
  have L34 := Lib.hid (show Below w3.heap.size w3 w4 from (Below.refl _ _).grown hg4 (Nat.le_refl _) (fun k hk => by cases hk))
  clear ho4 hg4
  go_wp2_with fail
  refine (deflate_long (some ⟨w3.heap.size, 0, none⟩) 65537 65537 w4 (by omega) (by omega)).mono ?_
  rintro ev w5 ⟨rfl, hb5⟩
  have L35 := Lib.hid (show Below w3.heap.size w3 w5 from L34.out.trans (hb5.mono L34.out.size))
  have L15 := Lib.hid (show Below w1.heap.size w1 w5 from L13.out.trans (L35.out.mono L13.out.size))
  have B5 := Lib.hid (show Below w.heap.size w w5 from B1.out.trans (L15.out.mono B1.out.size))
  clear hb5 L34
  have l0I : (S0.length : Int) ≤ 6 := by omega
  have l3I : (S3.length : Int) ≤ 19 := by omega
  go_wp2_with fail
  refine (says_any S0 [] A1 S0.length c1 none 0 0 w5 ((RdI.of_own O1.out).below L15.out) (RdI.nil none) R0.out (by omega) (by omega)).mono ?_
  rintro ev w6 ⟨rfl, hb6⟩
  have L36 := Lib.hid (show Below w3.heap.size w3 w6 from L35.out.trans (hb6.mono L35.out.size))
  have B6 := Lib.hid (show Below w.heap.size w w6 from B5.out.trans (hb6.mono B5.out.size))
  clear hb6
  go_wp2_with (at_make; refine heldG ?_)
  unfold HeldG
  refine wpList_guarded rfl ?_
  refine mk_bytes rfl (.const (.int .i64 300)) (.const (.int .i64 300)) rfl w.heap.size 300 _ _ rfl rfl rfl rfl (by omega) B6.out.size ?_
  intro w7 ho7 hg7
  have B7 := Lib.hid (B6.out.grown hg7 B6.out.size (fun k hk => by cases hk))
  have L37 := Lib.hid (show Below w3.heap.size w3 w7 from L36.out.grown hg7 L36.out.size (fun k hk => by cases hk))
  have r7 := rd_rep ho7
  rw [HZ.out] at r7
  have RZ7 := Lib.hid r7
  clear ho7 hg7 r7
  go_wp2_with fail
  refine (says_any S3 Z A3 S3.length c3 (some ⟨w6.heap.size, 0, none⟩) 300 300 w7 ((RdI.of_own O3.out).below L37.out) RZ7.out R3.out (by omega) (by omega)).mono ?_
  rintro ev w8 ⟨rfl, hb8⟩
  have B8 := Lib.hid (show Below w.heap.size w w8 from B7.out.trans (hb8.mono B7.out.size))
  clear hb8
  go_wp2_with fail
  refine (bound_any 65536 w8 (by omega)).mono ?_
  rintro ev w9 ⟨rfl, rfl⟩
  go_wp2_with fail
  refine (bound_any (-1) w9 (by omega)).mono ?_
  rintro ev w10 ⟨rfl, rfl⟩
  go_wp2
  go_ret
  exact ⟨rfl, B8.out⟩
end Go.Proofs.YthmcdohndckniaaGreatDoor

/-
  op: within, write, Right: walked.
-/
import Derived.Test.YtgjjdfhoakailaaGreatStC
namespace Go.Proofs.YtgjjdfhoakailaaGreat
open Go.RowKit Go.Maps Go.Sort Go.Shelf
set_option linter.unusedVariables false
set_option linter.unusedSimpArgs false

theorem opWithin_any (n a b : Int) (w : World) : Calls Tryz.prog 92 #[.int .i64 n, .int .i64 a, .int .i64 b] w fun e w' => e = .returned (.bool (decide (a ≤ n ∧ n ≤ b))) ∧ w = w' := by
  by_cases h1 : a ≤ n
  · by_cases h2 : n ≤ b
    · rw [decide_eq_true (And.intro h1 h2)]
      go_enter Tryz.func92, Tryz.ntmps92
      go_wp2
      go_ret
      simp [h1, h2]
    · rw [decide_eq_false (fun h => h2 h.2)]
      go_enter Tryz.func92, Tryz.ntmps92
      go_wp2
      go_ret
      simp [h1, h2]
  · rw [decide_eq_false (fun h => h1 h.1)]
    go_enter Tryz.func92, Tryz.ntmps92
    go_wp2
    go_ret
    simp [h1]
/-- An op. -/
structure OpV where
  kind : Int
  pos : Int
  n : Int
  snap : Int
  news : List Fr
  puts : List Pu
def frsC (l : List Fr) : List Value := l.flatMap frC
def pusC (l : List Pu) : List Value := l.flatMap puC
def opC (o : OpV) (A : Option Addr) (c : Nat) (B : Option Addr) (d : Nat) : List Value := [.int .u8 o.kind, .int .i64 o.pos, .int .i64 o.n, .int .i64 o.snap, .slice A o.news.length c, .slice B o.puts.length d]
structure OpAt (w : World) (o : OpV) (A : Option Addr) (c : Nat) (B : Option Addr) (d : Nat) : Prop where
  news : Src w 36 (.slice A o.news.length c) o.news.length (frsC o.news)
  puts : Src w 35 (.slice B o.puts.length d) o.puts.length (pusC o.puts)
theorem OpAt.below {w w' : World} {o : OpV} {A B : Option Addr} {c d : Nat} (h : OpAt w o A c B d) (hb : Below w.heap.size w w') : OpAt w' o A c B d := ⟨h.news.below hb, h.puts.below hb⟩
theorem opC_one (o : OpV) (A : Option Addr) (c : Nat) (B : Option Addr) (d : Nat) : ∀ v ∈ opC o A c B d, v.oneCell' = true := by
  intro v hv
  simp [opC] at hv
  rcases hv with rfl | rfl | rfl | rfl | rfl | rfl <;> rfl
theorem opC_info (o : OpV) (A : Option Addr) (c : Nat) (B : Option Addr) (d : Nat) : (Tryz.prog.info? 35).map (·.size) = some (opC o A c B d).length := by show _ = some 6; kernel_rfl
theorem frC_info (f : Fr) : (Tryz.prog.info? 130).map (·.size) = some (frC f).length := by rw [frC_len]; kernel_rfl
theorem puC_info (f : Pu) : (Tryz.prog.info? 132).map (·.size) = some (puC f).length := by rw [puC_len]; kernel_rfl
def inB (n a b : Int) : Bool := decide (a ≤ n ∧ n ≤ b)
def frB (f : Fr) : Bool := inB f.pl.pos 0 262144 && inB f.pl.sec 1 1024 && inB f.pl.uni 1 16 && decide (f.pl.ref = 0)
def puB (p : Pu) (least : Int) : Bool := inB p.unit least 511 && inB p.sl.off 0 15 && inB p.sl.mask 1 255
def putsB : List Pu → Int → Bool
  | [], _ => true
  | p :: r, least => puB p least && putsB r (p.unit + 1)
def newsB (l : List Fr) : Bool := l.all frB && decide ((l.map (·.key)).Nodup)
def writeB (o : OpV) : Bool := newsB o.news && putsB o.puts 0 && decide (o.news.length ≤ 18) && decide (o.puts.length ≤ 18)
def rightB (o : OpV) : Bool :=
  if o.kind = 1 then decide (o.pos = 0) && decide (o.n = 0) && decide (o.snap = 0) && writeB o
  else if o.kind = 2 then decide (o.news.length = 0) && decide (o.puts.length = 0) && decide (o.snap = 0) && inB o.pos 0 4096 && inB o.n 0 4096
  else if o.kind = 3 ∨ o.kind = 4 ∨ o.kind = 5 then decide (o.news.length = 0) && decide (o.puts.length = 0) && decide (o.pos = 0) && decide (o.n = 0) && inB o.snap 1 1073741824
  else false
/-! ### Sums -/
theorem valF_fold (K : Key) : ∀ (l S : SuM), valF (l.foldl (fun S p => addS S p.1 p.2) S) K = valF S K + ((l.filter (fun p => decide (p.1 = K))).map (·.2)).sum
  | [], S => by simp
  | p :: l, S => by
    rw [List.foldl_cons, valF_fold K l, valF_add, List.filter_cons]
    by_cases h : p.1 = K
    · simp [h]; omega
    · simp [h]
theorem valF_sumF (K : Key) (l : SuM) : valF (sumF l) K = ((l.filter (fun p => decide (p.1 = K))).map (·.2)).sum := by
  unfold sumF
  rw [valF_fold]
  simp [valF, aget]
def onesL (l : List Fr) : SuM := l.map (fun f => (f.key, 1))
theorem ones_mem (K : Key) : ∀ l : List Fr, (1 ≤ valF (sumF (onesL l)) K ↔ K ∈ l.map (·.key)) ∧ 0 ≤ valF (sumF (onesL l)) K ∧ valF (sumF (onesL l)) K ≤ l.length
  | [] => by simp [onesL, valF_sumF]
  | f :: l => by
    have ih := ones_mem K l
    rw [valF_sumF] at ih ⊢
    unfold onesL at ih ⊢
    rw [List.map_cons, List.filter_cons]
    by_cases h : f.key = K
    · simp only [h, decide_true, if_true, List.map_cons, List.sum_cons, List.mem_cons, true_or, iff_true, List.length_cons]
      omega
    · have h' : ¬ K = f.key := fun e => h e.symm
      simp only [h, decide_false, Bool.false_eq_true, if_false, List.map_cons, List.mem_cons, h', false_or, List.length_cons]
      refine ⟨ih.1, ih.2.1, by omega⟩
theorem frC_pl (f : Fr) : ((frC f).drop 32).take (plC f.pl).length = plC f.pl := by
  unfold frC
  rw [List.drop_left' (keyL_len _), List.take_of_length_le (Nat.le_refl _)]
theorem frC_key (f : Fr) : ((frC f).drop 0).take (keyL f.key).length = keyL f.key := by
  unfold frC
  rw [List.drop_zero, List.take_left]
def W1I (w : World) (b : Nat) (o : OpV) (k : Nat) (iv : Value) (wr : World) : Prop :=
  ∃ i : Nat, iv = .int .i64 (i : Int) ∧ i ≤ o.news.length ∧ i + k ≤ o.news.length ∧ o.news.length ≤ i + k ∧ newsB (o.news.take i) = true ∧ MapIs Tryz.prog 50 vKey klK (Value.int .i64) wr b (sumF (onesL (o.news.take i))) ∧ Below w.heap.size w wr
def W2I (w : World) (o : OpV) (k : Nat) (lv iv : Value) (wr : World) : Prop :=
  ∃ (i : Nat) (least : Int), iv = .int .i64 (i : Int) ∧ lv = .int .i64 least ∧ 0 ≤ least ∧ least ≤ 512 ∧ i ≤ o.puts.length ∧ i + k ≤ o.puts.length ∧ o.puts.length ≤ i + k ∧ putsB o.puts 0 = putsB (o.puts.drop i) least ∧ Below w.heap.size w wr
theorem newsB_take {l : List Fr} {j : Nat} (hj : j < l.length) (h : newsB (l.take j) = true) : newsB (l.take (j + 1)) = (frB (l[j]'hj) && decide ((l[j]'hj).key ∉ (l.take j).map (·.key))) := by
  unfold newsB at h ⊢
  simp only [Bool.and_eq_true, decide_eq_true_eq] at h
  rw [List.take_succ_eq_append_getElem hj, List.all_append, h.1, List.map_append]
  simp only [List.all_cons, List.all_nil, Bool.and_true, Bool.true_and, List.map_cons, List.map_nil]
  congr 1
  rw [decide_eq_decide, List.nodup_append]
  constructor
  · intro h1 h2
    exact h1.2.2 _ h2 _ (List.mem_singleton.2 rfl) rfl
  · intro h1
    exact ⟨h.2, by simp, fun a ha b hb e => h1 (by rw [List.mem_singleton.1 hb] at e; rw [← e]; exact ha)⟩
theorem newsB_bad {l : List Fr} {j : Nat} (hj : j ≤ l.length) (h : newsB (l.take j) = false) : newsB l = false := by
  cases hn : newsB l with
  | false => rfl
  | true =>
    unfold newsB at h hn
    simp only [Bool.and_eq_true, decide_eq_true_eq] at hn
    have h1 : (l.take j).all frB = true := List.all_eq_true.2 fun x hx => List.all_eq_true.1 hn.1 x (List.mem_of_mem_take hx)
    have h2 : ((l.take j).map (·.key)).Nodup := hn.2.sublist ((List.take_sublist j l).map _)
    rw [h1, decide_eq_true h2] at h
    cases h
end Go.Proofs.YtgjjdfhoakailaaGreat

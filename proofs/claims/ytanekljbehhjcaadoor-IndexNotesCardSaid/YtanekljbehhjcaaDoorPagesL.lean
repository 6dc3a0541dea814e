/-
  An index's pages in plain words: ascending lists, runs of pages, their text; the reference comes to just these. No condition.
-/
import Derived.Test.YtanekljbehhjcaaDoorPureA
import Derived.Test.YtanekljbehhjcaaDoorPXx5
import Derived.Test.YtanekljbehhjcaaDoorPXx6
import Derived.Test.YtanekljbehhjcaaDoorPXx7
import Derived.Lib.SlicesCompact
import Derived.Lib.Join
namespace Go.Proofs.YtanekljbehhjcaaDoor
open Go.RowKit Go.Proofs.YtanekljbehhjcaaDoorW.PrintWords Go.Proofs.YtanekljbehhjcaaDoor.PX

/-- n put into an ascending list, once. -/
def insD (n : Int) : List Int → List Int
  | [] => [n]
  | x :: r => if x < n then x :: insD n r else if x = n then x :: r else n :: x :: r
theorem insD_len (n : Int) (l : List Int) : (insD n l).length ≤ l.length + 1 := by
  induction l with
  | nil => simp [insD]
  | cons x r ih =>
    rw [insD]; split
    · simp only [List.length_cons]; omega
    · split <;> simp
theorem insD_mem (n x : Int) (l : List Int) : x ∈ insD n l ↔ x = n ∨ x ∈ l := by
  induction l with
  | nil => simp [insD]
  | cons y r ih =>
    rw [insD]; split
    · rw [List.mem_cons, ih, List.mem_cons]
      constructor
      · rintro (h | h | h) <;> simp [h]
      · rintro (h | h | h) <;> simp [h]
    · split
      · rename_i h; subst h; rw [List.mem_cons]; constructor
        · rintro (h | h) <;> simp [h]
        · rintro (h | h | h) <;> simp [h]
      · rw [List.mem_cons]
theorem insD_asc (n : Int) (l : List Int) (h : l.Pairwise (· < ·)) : (insD n l).Pairwise (· < ·) := by
  induction l with
  | nil => simp [insD]
  | cons y r ih =>
    obtain ⟨h1, h2⟩ := List.pairwise_cons.1 h
    rw [insD]; split
    · rename_i hy
      refine List.pairwise_cons.2 ⟨fun z hz => ?_, ih h2⟩
      rcases (insD_mem n z r).1 hz with rfl | hz
      · exact hy
      · exact h1 z hz
    · split
      · exact h
      · refine List.pairwise_cons.2 ⟨fun z hz => ?_, h⟩
        rcases List.mem_cons.1 hz with rfl | hz
        · omega
        · have := h1 z hz; omega
/-- Two ascending lists of the same numbers are one. -/
theorem asc_unique : ∀ {a b : List Int}, a.Pairwise (· < ·) → b.Pairwise (· < ·) → (∀ x, x ∈ a ↔ x ∈ b) → a = b
  | [], [], _, _, _ => rfl
  | [], y :: b, _, _, h => absurd ((h y).2 List.mem_cons_self) (by simp)
  | x :: a, [], _, _, h => absurd ((h x).1 List.mem_cons_self) (by simp)
  | x :: a, y :: b, ha, hb, h => by
    obtain ⟨a1, a2⟩ := List.pairwise_cons.1 ha
    obtain ⟨b1, b2⟩ := List.pairwise_cons.1 hb
    have hxy : x = y := by
      rcases List.mem_cons.1 ((h x).1 List.mem_cons_self) with e | hx
      · exact e
      · rcases List.mem_cons.1 ((h y).2 List.mem_cons_self) with e | hy
        · exact e.symm
        · have := b1 x hx; have := a1 y hy; omega
    subst hxy
    rw [asc_unique a2 b2 (fun z => ?_)]
    constructor
    · intro hz
      rcases List.mem_cons.1 ((h z).1 (List.mem_cons_of_mem _ hz)) with e | hz'
      · subst e; exact absurd (a1 _ hz) (by omega)
      · exact hz'
    · intro hz
      rcases List.mem_cons.1 ((h z).2 (List.mem_cons_of_mem _ hz)) with e | hz'
      · subst e; exact absurd (b1 _ hz) (by omega)
      · exact hz'
theorem addPage_l (n : Int) (l : List Int) (hl : l.length ≤ 1000000000000) : ∀ (d i : Nat), i + d = l.length →
    Ev (fun k => frisketref27_addPage.l0 k l n (i : Int)) (l.take i ++ insD n (l.drop i)) := by
  intro d
  induction d with
  | zero =>
    intro i h
    refine Ev.step (fun k => by rw [frisketref27_addPage.l0]) ?_
    refine evNeg (by omega) (evLet (evPos (by omega) (evPos (by omega) (evLet (evPos ?_ (evLet (evPos ?_ (evLet (evLet (evPos ?_ (evOf ?_)))))))))))
    all_goals simp only [Int.toNat_natCast, List.length_append, List.length_take, List.length_drop, List.length_cons, List.length_nil]
    · omega
    · omega
    · omega
    · rw [List.drop_eq_nil_of_le (by omega)]; simp [insD]
  | succ d ih =>
    intro i h
    have hi : i < l.length := by omega
    refine Ev.step (fun k => by rw [frisketref27_addPage.l0]) ?_
    refine evPos (by omega) (evPos (by omega) ?_)
    rw [rd_nat, List.getD_eq_getElem?_getD, List.getElem?_eq_getElem hi, Option.getD_some]
    rw [List.drop_eq_getElem_cons hi, insD]
    by_cases h1 : l[i] < n
    · refine evPos h1 ?_
      rw [if_pos h1, show wrap64 ((i : Int) + 1) = ((i + 1 : Nat) : Int) from by rw [w64 (by omega) (by omega)]; rfl]
      refine evEq ?_ (ih (i + 1) (by omega))
      rw [List.take_add_one, List.getElem?_eq_getElem hi, Option.toList_some, List.append_assoc]; rfl
    · refine evNeg h1 ?_
      rw [if_neg h1]
      by_cases h2 : l[i] = n
      · refine evPos h2 (evOf ?_)
        rw [if_pos h2, ← List.drop_eq_getElem_cons hi, List.take_append_drop]
      · refine evNeg h2 (evLet (evPos (by omega) (evLet (evPos ?_ (evLet (evPos ?_ (evLet (evLet (evPos ?_ (evOf ?_))))))))))
        all_goals simp only [Int.toNat_natCast, List.length_append, List.length_take, List.length_drop, List.length_cons, List.length_nil]
        · omega
        · omega
        · omega
        · rw [if_neg h2, ← List.drop_eq_getElem_cons hi]; simp
theorem addPage_ev (n : Int) (l : List Int) (hl : l.length ≤ 1000000000000) : Ev (fun k => frisketref27_addPage.f k l n) (insD n l) := by
  unfold frisketref27_addPage.f
  have := addPage_l n l hl l.length 0 (by omega)
  simpa using this

/-- Where the run that goes on at k ends. -/
def runE (l : List Int) : Nat → Nat → Nat
  | 0, k => k
  | d + 1, k => if k + 1 < l.length ∧ l.getD (k + 1) 0 = l.getD k 0 + 1 then runE l d (k + 1) else k
def runTo (l : List Int) (k : Nat) : Nat := runE l (l.length - k) k
theorem runTo_step {l : List Int} {k : Nat} (h : k + 1 < l.length) (e : l.getD (k + 1) 0 = l.getD k 0 + 1) : runTo l k = runTo l (k + 1) := by
  unfold runTo
  rw [show l.length - k = (l.length - (k + 1)) + 1 by omega, runE, if_pos ⟨h, e⟩]
theorem runTo_stop {l : List Int} {k : Nat} (h : ¬ (k + 1 < l.length ∧ l.getD (k + 1) 0 = l.getD k 0 + 1)) : runTo l k = k := by
  unfold runTo
  cases l.length - k with
  | zero => rfl
  | succ d => rw [runE, if_neg h]
theorem runE_le (l : List Int) : ∀ d k, k ≤ runE l d k ∧ (k < l.length → runE l d k < l.length)
  | 0, k => ⟨Nat.le_refl _, fun h => h⟩
  | d + 1, k => by
    rw [runE]; split
    · rename_i h
      have := runE_le l d (k + 1)
      exact ⟨by omega, fun _ => this.2 h.1⟩
    · exact ⟨Nat.le_refl _, fun h => h⟩
theorem runTo_ge (l : List Int) (k : Nat) : k ≤ runTo l k := (runE_le l _ k).1
theorem runTo_lt {l : List Int} {k : Nat} (h : k < l.length) : runTo l k < l.length := (runE_le l _ k).2 h
/-- A page's number written. -/
def dec (n : Int) : List UInt8 := Lib.decDigits n.toNat
theorem dec_len (n : Nat) (h : n < 10 ^ 20) : (Lib.decDigits n).length ≤ 20 := by
  rw [Lib.decDigits_length]
  have hh : ∀ (k n : Nat), n < 10 ^ (k + 1) → Lib.nDigits n ≤ k + 1 := by
    intro k
    induction k with
    | zero => intro n h; rw [Lib.nDigits_small (by simpa using h)]; omega
    | succ k ih =>
      intro n h
      rw [Lib.nDigits]
      split
      · omega
      · exact Nat.succ_le_succ (ih (n / 10) (by rw [Nat.pow_succ] at h; omega))
  exact hh 19 n h
theorem dec_small {n : Int} (h : n ≤ 1000000) : (dec n).length ≤ 20 := dec_len _ (by omega)
theorem dec_ne (n : Int) : dec n ≠ [] := by
  unfold dec; rw [dec_front]; simp
/-- The pages' parts from place i on. -/
def partsFrom (l : List Int) (i : Nat) : List (List UInt8) :=
  if i < l.length then
    if 2 ≤ runTo l i - i then (dec (l.getD i 0) ++ 45 :: dec (l.getD (runTo l i) 0)) :: partsFrom l (runTo l i + 1)
    else dec (l.getD i 0) :: partsFrom l (i + 1)
  else []
termination_by l.length - i
decreasing_by all_goals (have := runTo_ge l i; omega)
def comma : List UInt8 := [44, 32]
theorem join_snoc (P : List (List UInt8)) (x : List UInt8) (h : P ≠ []) : Lib.join (P ++ [x]) comma = Lib.join P comma ++ comma ++ x := by
  induction P with
  | nil => exact absurd rfl h
  | cons a P ih =>
    cases P with
    | nil => simp [Lib.join, List.intercalate, List.intersperse]
    | cons b P =>
      have := ih (by simp)
      simp only [Lib.join, List.intercalate] at this ⊢
      rw [List.cons_append, List.cons_append, List.intersperse_cons_cons, List.intersperse_cons_cons]
      simp only [List.flatten_cons] at this ⊢
      rw [← List.cons_append, this]
      simp only [List.append_assoc]
theorem join_nonempty (P : List (List UInt8)) (h : P ≠ []) (h1 : ∀ p ∈ P, p ≠ []) : Lib.join P comma ≠ [] := by
  cases P with
  | nil => exact absurd rfl h
  | cons a P =>
    have ha := h1 a List.mem_cons_self
    cases P with
    | nil => rw [Lib.join_one]; exact ha
    | cons b P =>
      simp only [Lib.join, List.intercalate, List.intersperse_cons_cons, List.flatten_cons]
      simp [ha]
/-- The text so far, and one part more. -/
def glue (s x : List UInt8) : List UInt8 := (if s = [] then [] else s ++ comma) ++ x
theorem glue_join (P : List (List UInt8)) (x : List UInt8) (h1 : ∀ p ∈ P, p ≠ []) : glue (Lib.join P comma) x = Lib.join (P ++ [x]) comma := by
  unfold glue
  by_cases h : P = []
  · subst h; rw [Lib.join_nil, if_pos rfl]; exact (Lib.join_one x comma).symm
  · rw [if_neg (join_nonempty P h h1), join_snoc P x h]
/-- The parts glued behind a text. -/
def glueAll (s : List UInt8) : List (List UInt8) → List UInt8
  | [] => s
  | x :: r => glueAll (glue s x) r
theorem glueAll_join (P Q : List (List UInt8)) (hP : ∀ p ∈ P, p ≠ []) (hQ : ∀ p ∈ Q, p ≠ []) : glueAll (Lib.join P comma) Q = Lib.join (P ++ Q) comma := by
  induction Q generalizing P with
  | nil => simp [glueAll]
  | cons x r ih =>
    rw [glueAll, glue_join P x hP, ih (P ++ [x]) (fun p hp => ?_) (fun p hp => hQ p (List.mem_cons_of_mem _ hp)), List.append_assoc]; rfl
    rcases List.mem_append.1 hp with h | h
    · exact hP p h
    · rw [List.mem_singleton.1 h]; exact hQ x List.mem_cons_self
theorem partsFrom_ne (l : List Int) (i : Nat) : ∀ p ∈ partsFrom l i, p ≠ [] := by
  fun_induction partsFrom l i with
  | case1 i h h2 ih =>
    intro p hp
    rcases List.mem_cons.1 hp with rfl | hp
    · simp
    · exact ih p hp
  | case2 i h h2 ih =>
    intro p hp
    rcases List.mem_cons.1 hp with rfl | hp
    · exact dec_ne _
    · exact ih p hp
  | case3 i h => intro p hp; simp at hp

section
variable {l : List Int} (hl : l.length ≤ 1000000000000) (hr : ∀ x ∈ l, 0 ≤ x ∧ x ≤ 1000000)
theorem getD_range (hr : ∀ x ∈ l, 0 ≤ x ∧ x ≤ 1000000) (i : Nat) : 0 ≤ l.getD i 0 ∧ l.getD i 0 ≤ 1000000 := by
  rw [List.getD_eq_getElem?_getD]
  by_cases h : i < l.length
  · rw [List.getElem?_eq_getElem h]; exact hr _ (List.getElem_mem h)
  · rw [List.getElem?_eq_none (by omega)]; simp
include hl hr
theorem run_ev (s : ByteArray) (i : Nat) (r : ByteArray) : ∀ (d k : Nat), k + d = l.length → k < l.length → Ev (fun q => frisketref27_pages.j2 q l s (i : Int) (runTo l k : Int)) r → Ev (fun q => frisketref27_pages.l1 q l s (i : Int) (k : Int)) r := by
  intro d
  induction d with
  | zero => intro k h h1; omega
  | succ d ih =>
    intro k h h1 H
    refine Ev.step (fun q => by rw [frisketref27_pages.l1]) ?_
    have e : wrap64 ((k : Int) + 1) = ((k + 1 : Nat) : Int) := by rw [w64 (by omega) (by omega)]; rfl
    rw [e]
    by_cases h2 : k + 1 < l.length
    · refine evPos (by omega) (evPos (by omega) (evPos (by omega) (evPos (by omega) ?_)))
      rw [rd_nat, rd_nat]
      have hk := getD_range hr k
      rw [w64 (x := l.getD k 0 + 1) (by omega) (by omega)]
      by_cases h3 : l.getD (k + 1) 0 = l.getD k 0 + 1
      · refine evPos h3 (ih (k + 1) (by omega) h2 ?_)
        rw [← runTo_step h2 h3]; exact H
      · refine evNeg h3 ?_
        rw [runTo_stop (fun h => h3 h.2)] at H; exact H
    · refine evNeg (by omega) ?_
      rw [runTo_stop (fun h => h2 h.1)] at H; exact H
omit hl in
theorem dig_ev (i : Nat) : Ev (fun k => frisketref01_Digits.f k (rd l (i : Int))) (bar (dec (l.getD i 0))) := by
  have h := getD_range hr i
  rw [rd_nat, show l.getD i 0 = ((l.getD i 0).toNat : Int) by omega]
  exact digits_ev _ (by omega)
theorem pages_l (i : Nat) (s : List UInt8) (hs : s.length ≤ 100 * i) : Ev (fun k => frisketref27_pages.l0 k l (bar s) (i : Int)) (bar (glueAll s (partsFrom l i))) := by
  induction h : l.length - i using Nat.strongRecOn generalizing i s with
  | _ n ih =>
    refine Ev.step (fun k => by rw [frisketref27_pages.l0]) ?_
    rw [partsFrom]
    by_cases hi : i < l.length
    · rw [if_pos hi]
      refine evPos (by omega) (run_ev hl hr (bar s) i _ (l.length - i) i (by omega) hi ?_)
      have hge := runTo_ge l i
      have hlt := runTo_lt hi
      generalize runTo l i = e at *
      refine Ev.step (fun k => by rw [frisketref27_pages.j2]) ?_
      -- the comma
      have H : ∀ r, Ev (fun k => frisketref27_pages.j3 k l (bar (if s = [] then [] else s ++ comma)) (i : Int) (e : Int)) r → Ev (fun k => if (bar s).toList = [] then frisketref27_pages.j3 k l (bar s) (i : Int) (e : Int) else if (bar s).size + 2 ≤ 9223372036854775807 then frisketref27_pages.j3 k l (bar s ++ ⟨#[44, 32]⟩) (i : Int) (e : Int) else none) r := by
        intro r hr
        rw [bar_toList]
        by_cases h0 : s = []
        · refine evPos h0 ?_
          rw [if_pos h0] at hr; rw [h0]; exact hr
        · refine evNeg h0 (evPos (by rw [bar_size]; omega) ?_)
          rw [if_neg h0] at hr
          have e1 : bar s ++ ⟨#[44, 32]⟩ = bar (s ++ comma) := bar_app s comma
          rw [e1]; exact hr
      refine H _ ?_
      have hs2 : (if s = [] then [] else s ++ comma).length ≤ 100 * i + 2 := by
        split
        · simp
        · simp [comma]; omega
      have hglue : ∀ x, (if s = [] then [] else s ++ comma) ++ x = glue s x := fun x => rfl
      generalize (if s = [] then [] else s ++ comma) = s2 at *
      refine Ev.step (fun k => by rw [frisketref27_pages.j3]) ?_
      rw [w64 (x := (e : Int) - (i : Int)) (by omega) (by omega)]
      have d1 := dec_small (getD_range hr i).2
      have d2 := dec_small (getD_range hr e).2
      by_cases h2 : 2 ≤ e - i
      · rw [if_pos h2, glueAll]
        refine evPos (by omega) (evPos (by omega) (evPos (by omega) (Ev.bind (dig_ev hr i) (evPos ?_ (evPos (by omega) (evPos (by omega) (Ev.bind (dig_ev hr e) (evPos ?_ (evPos ?_ ?_)))))))))
        · rw [bar_size]; omega
        · rw [show bar (dec (l.getD i 0)) ++ (⟨#[45]⟩ : ByteArray) = bar (dec (l.getD i 0) ++ [45]) from bar_app _ [45], bar_size, bar_size]
          simp only [List.length_append, List.length_cons, List.length_nil]; omega
        · rw [show bar (dec (l.getD i 0)) ++ (⟨#[45]⟩ : ByteArray) = bar (dec (l.getD i 0) ++ [45]) from bar_app _ [45], bar_app, bar_size, bar_size]
          simp only [List.length_append, List.length_cons, List.length_nil]; omega
        · have e1 : bar s2 ++ (bar (dec (l.getD i 0)) ++ (⟨#[45]⟩ : ByteArray) ++ bar (dec (l.getD e 0))) = bar (glue s (dec (l.getD i 0) ++ 45 :: dec (l.getD e 0))) := by
            rw [show bar (dec (l.getD i 0)) ++ (⟨#[45]⟩ : ByteArray) = bar (dec (l.getD i 0) ++ [45]) from bar_app _ [45], bar_app, bar_app, ← hglue]
            congr 2; simp
          rw [e1, show wrap64 ((e : Int) + 1) = ((e + 1 : Nat) : Int) from by rw [w64 (by omega) (by omega)]; rfl]
          refine ih (l.length - (e + 1)) (by omega) (e + 1) _ ?_ rfl
          rw [← hglue]; simp only [List.length_append, List.length_cons]; omega
      · rw [if_neg h2, glueAll]
        refine evNeg (by omega) (evPos (by omega) (evPos (by omega) (Ev.bind (dig_ev hr i) (evPos ?_ ?_))))
        · rw [bar_size, bar_size]; omega
        · rw [bar_app, hglue, show wrap64 ((i : Int) + 1) = ((i + 1 : Nat) : Int) from by rw [w64 (by omega) (by omega)]; rfl]
          refine ih (l.length - (i + 1)) (by omega) (i + 1) _ ?_ rfl
          rw [← hglue]; simp only [List.length_append]; omega
    · rw [if_neg hi, glueAll]
      exact evNeg (by omega) (Ev.now _)
/-- The text of ascending pages. -/
def pagesT (l : List Int) : List UInt8 := Lib.join (partsFrom l 0) comma
theorem pages_ev : Ev (fun k => frisketref27_pages.f k l) (bar (pagesT l)) := by
  unfold frisketref27_pages.f pagesT
  refine evEq ?_ (pages_l hl hr 0 [] (by simp))
  rw [← Lib.join_nil comma, glueAll_join [] _ (by simp) (partsFrom_ne l 0)]; rfl
end
/-- The list ascending, each once. -/
def sortD (l : List Int) : List Int := l.foldl (fun a n => insD n a) []
theorem foldD_facts (l : List Int) : ∀ a : List Int, a.Pairwise (· < ·) → (l.foldl (fun a n => insD n a) a).Pairwise (· < ·) ∧ (∀ x, x ∈ l.foldl (fun a n => insD n a) a ↔ x ∈ a ∨ x ∈ l) ∧ (l.foldl (fun a n => insD n a) a).length ≤ a.length + l.length := by
  induction l with
  | nil => intro a ha; exact ⟨ha, by simp, by simp⟩
  | cons n r ih =>
    intro a ha
    obtain ⟨h1, h2, h3⟩ := ih (insD n a) (insD_asc n a ha)
    refine ⟨h1, fun x => ?_, ?_⟩
    · rw [List.foldl_cons, h2, insD_mem, List.mem_cons]
      constructor
      · rintro ((h | h) | h) <;> simp [h]
      · rintro (h | h | h) <;> simp [h]
    · rw [List.foldl_cons]
      have := insD_len n a
      simp only [List.length_cons]; omega
theorem sortD_asc (l : List Int) : (sortD l).Pairwise (· < ·) := (foldD_facts l [] List.Pairwise.nil).1
theorem sortD_mem (l : List Int) (x : Int) : x ∈ sortD l ↔ x ∈ l := by
  rw [sortD, (foldD_facts l [] List.Pairwise.nil).2.1]; simp
theorem sortD_len (l : List Int) : (sortD l).length ≤ l.length := by
  have := (foldD_facts l [] List.Pairwise.nil).2.2
  simpa [sortD] using this
def badPage (p : Int) : Bool := decide (p < 0) || decide (1000000 < p)
/-- What Pages answers. -/
def pagesOf (l : List Int) : ByteArray × Int := if l.any badPage then (bar [], 1) else (bar (pagesT (sortD l)), 0)
theorem refPages_l (l : List Int) (hl : l.length ≤ 100000000000) : ∀ (d i : Nat), i + d = l.length → (∀ x ∈ l.take i, badPage x = false) →
    Ev (fun k => frisketref27_Pages.l0 k l (sortD (l.take i)) (i : Int)) (pagesOf l) := by
  intro d
  induction d with
  | zero =>
    intro i h hb
    refine Ev.step (fun k => by rw [frisketref27_Pages.l0]) ?_
    refine evNeg (by omega) ?_
    rw [List.take_of_length_le (by omega)] at hb ⊢
    have h0 : l.any badPage = false := by
      rw [List.any_eq_false]; intro x hx; simp [hb x hx]
    unfold pagesOf
    rw [h0]
    refine Ev.bind (pages_ev (l := sortD l) (by have := sortD_len l; omega) (fun x hx => ?_)) (Ev.now _)
    have := hb x ((sortD_mem l x).1 hx)
    simp [badPage] at this; omega
  | succ d ih =>
    intro i h hb
    have hi : i < l.length := by omega
    refine Ev.step (fun k => by rw [frisketref27_Pages.l0]) ?_
    refine evPos (by omega) (evPos (by omega) ?_)
    rw [rd_nat, List.getD_eq_getElem?_getD, List.getElem?_eq_getElem hi, Option.getD_some]
    have hany : badPage l[i] = true → pagesOf l = (bar [], 1) := fun hx => by
      unfold pagesOf; rw [if_pos (List.any_eq_true.2 ⟨_, List.getElem_mem hi, hx⟩)]
    by_cases h1 : l[i] < 0
    · refine evPos h1 (evOf ?_)
      rw [hany (by simp [badPage, h1])]; rfl
    · refine evNeg h1 ?_
      by_cases h2 : 1000000 < l[i]
      · refine evPos (by omega) (evOf ?_)
        rw [hany (by simp [badPage, h2])]; rfl
      · refine evNeg (by omega) (Ev.bind (addPage_ev l[i] _ ?_) ?_)
        · have := sortD_len (l.take i); have := List.length_take_le i l; omega
        · rw [show wrap64 ((i : Int) + 1) = ((i + 1 : Nat) : Int) from by rw [w64 (by omega) (by omega)]; rfl]
          have e : insD l[i] (sortD (l.take i)) = sortD (l.take (i + 1)) := by
            rw [List.take_add_one, List.getElem?_eq_getElem hi, Option.toList_some]; unfold sortD; rw [List.foldl_append]; rfl
          rw [e]
          refine ih (i + 1) (by omega) (fun x hx => ?_)
          rw [List.take_add_one, List.getElem?_eq_getElem hi, Option.toList_some] at hx
          rcases List.mem_append.1 hx with hx | hx
          · exact hb x hx
          · rw [List.mem_singleton.1 hx]; simp [badPage]; omega
theorem refPages_ev (l : List Int) (hl : l.length ≤ 100000000000) : Ev (fun k => frisketref27_Pages.f k l) (pagesOf l) := by
  unfold frisketref27_Pages.f
  exact refPages_l l hl l.length 0 (by omega) (by simp)
end Go.Proofs.YtanekljbehhjcaaDoor

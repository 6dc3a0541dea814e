/-
  Letters and roman digits: plain laws, no program in sight.
-/
import Derived.Test.YtajbpjojockgoaaGreatDoorDigits
import Derived.Lib.Case
import Derived.Lib.SlTrimSet
namespace Go.Proofs.YtajbpjojockgoaaGreatDoor

/-- 1, 2, .. as a, b, .. -/
def letL (n : Nat) : List UInt8 := if _h : n = 0 then [] else letL ((n - 1) / 26) ++ [UInt8.ofNat (97 + (n - 1) % 26)]
termination_by n
decreasing_by omega
theorem letL_zero : letL 0 = [] := by rw [letL]; simp
theorem letL_pos (n : Nat) (h : 0 < n) : letL n = letL ((n - 1) / 26) ++ [UInt8.ofNat (97 + (n - 1) % 26)] := by rw [letL, dif_neg (by omega)]
theorem letL_len (k : Nat) : ∀ n, n < 2 ^ k → (letL n).length ≤ k := by
  induction k with
  | zero => intro n h; rw [show n = 0 by omega, letL_zero]; simp
  | succ k ih =>
    intro n h
    by_cases h0 : n = 0
    · rw [h0, letL_zero]; simp
    · rw [letL_pos n (by omega)]
      have := ih ((n - 1) / 26) (by rw [Nat.pow_succ] at h; omega)
      simp; omega
theorem letL_small (n : Nat) : ∀ b ∈ letL n, 97 ≤ b.toNat ∧ b.toNat ≤ 122 := by
  induction n using Nat.strongRecOn with
  | _ n ih =>
    by_cases h0 : n = 0
    · rw [h0, letL_zero]; simp
    · rw [letL_pos n (by omega)]
      intro b hb
      rcases List.mem_append.1 hb with hb | hb
      · exact ih _ (by omega) b hb
      · rw [List.mem_singleton.1 hb]
        have e : (UInt8.ofNat (97 + (n - 1) % 26)).toNat = 97 + (n - 1) % 26 := by simp [UInt8.toNat_ofNat']; omega
        rw [e]; omega

/-- Digits of one place. -/
def dig (one five ten : UInt8) (d : Nat) : List UInt8 := if d = 9 then [one, ten] else if 5 ≤ d then five :: List.replicate (d - 5) one else if d = 4 then [one, five] else List.replicate d one
def romC (n : Nat) : List UInt8 := dig 99 100 109 (n / 100 % 10)
def romX (n : Nat) : List UInt8 := dig 120 108 99 (n / 10 % 10)
def romI (n : Nat) : List UInt8 := dig 105 118 120 (n % 10)
def romR (n : Nat) : List UInt8 := romC n ++ (romX n ++ romI n)
def romM (n : Nat) : List UInt8 := List.replicate (n / 1000) 109
/-- 1 to 39999 in small roman digits. -/
def romL (n : Nat) : List UInt8 := romM n ++ romR n
theorem romR_mod (n : Nat) : romR n = romR (n % 1000) := by
  unfold romR romC romX romI
  rw [show n % 1000 / 100 % 10 = n / 100 % 10 by omega, show n % 1000 / 10 % 10 = n / 10 % 10 by omega, show n % 1000 % 10 = n % 10 by omega]
def isRom (b : UInt8) : Bool := [109, 100, 99, 108, 120, 118, 105].contains b
theorem romR_all : ∀ k < 1000, (romR k).all isRom = true ∧ (romR k).length ≤ 12 := by decide +kernel
theorem romL_rom (n : Nat) : ∀ b ∈ romL n, isRom b = true := by
  intro b hb
  rcases List.mem_append.1 hb with hb | hb
  · rw [List.eq_of_mem_replicate hb]; decide
  · rw [romR_mod] at hb
    exact List.all_eq_true.1 (romR_all (n % 1000) (by omega)).1 b hb
theorem romL_len (n : Nat) (h : n < 40000) : (romL n).length ≤ 51 := by
  unfold romL romM
  rw [romR_mod]
  have := (romR_all (n % 1000) (by omega)).2
  simp; omega
theorem romL_len3 (n : Nat) (h : n < 40000) : (romL n).length ≤ 60 := Nat.le_trans (romL_len n h) (by decide)

/-- The greedy way: each text as often as it goes. -/
def greedy : List (Nat × List UInt8) → Nat → List UInt8
  | [], _ => []
  | (v, t) :: r, n => (List.replicate (n / v) t).flatten ++ greedy r (n % v)
def romTab : List (Nat × List UInt8) := [(1000, [109]), (900, [99, 109]), (500, [100]), (400, [99, 100]), (100, [99]), (90, [120, 99]), (50, [108]), (40, [120, 108]), (10, [120]), (9, [105, 120]), (5, [118]), (4, [105, 118]), (1, [105])]
theorem greedy_small : ∀ k < 1000, greedy romTab.tail k = romR k := by decide +kernel
theorem greedy_eq (n : Nat) : greedy romTab n = romL n := by
  show (List.replicate (n / 1000) [109]).flatten ++ greedy romTab.tail (n % 1000) = romL n
  rw [greedy_small _ (by omega), ← romR_mod]
  unfold romL romM
  congr 1
  induction n / 1000 with
  | zero => rfl
  | succ k ih => rw [List.replicate_succ, List.replicate_succ, List.flatten_cons, ih]; rfl

/-- What a small roman digit is. -/
def worth (b : UInt8) : Nat := if b = 109 then 1000 else if b = 100 then 500 else if b = 99 then 100 else if b = 108 then 50 else if b = 120 then 10 else if b = 118 then 5 else if b = 105 then 1 else 0
/-- What digits come to. -/
def romV : List UInt8 → Int
  | [] => 0
  | [a] => worth a
  | a :: b :: r => (if worth a < worth b then -(worth a : Int) else worth a) + romV (b :: r)
theorem worth_le (b : UInt8) : worth b ≤ 1000 := by
  unfold worth; repeat (first | (split; · omega) | omega)
theorem romV_m (l : List UInt8) : romV (109 :: l) = 1000 + romV l := by
  cases l with
  | nil => rfl
  | cons b r =>
    have := worth_le b
    show (if worth 109 < worth b then _ else _) + _ = _
    rw [if_neg (show ¬ worth 109 < worth b from by have h : worth 109 = 1000 := rfl; omega)]
    rfl
theorem romV_small : ∀ k < 1000, romV (romR k) = k := by decide +kernel
theorem romV_romL (n : Nat) : romV (romL n) = n := by
  have h : ∀ m (l : List UInt8), romV (List.replicate m 109 ++ l) = 1000 * m + romV l := by
    intro m l
    induction m with
    | zero => simp
    | succ k ih => rw [List.replicate_succ, List.cons_append, romV_m, ih]; omega
  unfold romL romM
  rw [h, romR_mod, romV_small _ (by omega)]
  omega
theorem romV_bound (l : List UInt8) : -1000 * (l.length : Int) ≤ romV l ∧ romV l ≤ 1000 * (l.length : Int) := by
  induction l with
  | nil => simp [romV]
  | cons a r ih =>
    have h1 := worth_le a
    cases r with
    | nil => simp [romV]; omega
    | cons b t =>
      simp only [romV, List.length_cons] at ih ⊢
      split <;> constructor <;> omega

/-- A number from 0 on, by one of the small formats or zeros. -/
def textB (n : Nat) (f : List UInt8) : List UInt8 :=
  if f = [105] then (if 0 < n ∧ n < 40000 then romL n else Lib.decDigits n)
  else if f = [97] then (if 0 < n then letL n else Lib.decDigits n)
  else List.replicate (f.length - (Lib.decDigits n).length) 48 ++ Lib.decDigits n
def textP (n : Nat) (f : List UInt8) : List UInt8 := if f = [73] ∨ f = [65] then Lib.toUpperA (textB n (Lib.toLowerA f)) else textB n f
def textL (n : Int) (f : List UInt8) : List UInt8 := if n < 0 then 45 :: textP n.natAbs f else textP n.natAbs f
/-- A format. -/
def formOK (f : List UInt8) : Bool := f = [105] ∨ f = [73] ∨ f = [97] ∨ f = [65] ∨ (1 ≤ f.length ∧ f.length ≤ 9 ∧ f.all (fun b => decide (48 ≤ b.toNat ∧ b.toNat ≤ 57)) = true)
theorem dec_ascii (n : Nat) : ∀ b ∈ Lib.decDigits n, 48 ≤ b.toNat ∧ b.toNat ≤ 57 := by
  induction n using Nat.strongRecOn with
  | _ n ih =>
    rw [Lib.decDigits]
    split
    · intro b hb
      rw [List.mem_singleton.1 hb]
      have e : (UInt8.ofNat (48 + n)).toNat = 48 + n := by simp [UInt8.toNat_ofNat']; omega
      rw [e]; omega
    · intro b hb
      rcases List.mem_append.1 hb with hb | hb
      · exact ih _ (by omega) b hb
      · rw [List.mem_singleton.1 hb]
        have e : (UInt8.ofNat (48 + n % 10)).toNat = 48 + n % 10 := by simp [UInt8.toNat_ofNat']; omega
        rw [e]; omega
theorem isRom_ascii (b : UInt8) (h : isRom b = true) : b.toNat < 128 := by
  unfold isRom at h
  simp at h
  rcases h with rfl | rfl | rfl | rfl | rfl | rfl | rfl <;> decide
theorem textB_ascii (n : Nat) (f : List UInt8) : ∀ b ∈ textB n f, b.toNat < 128 := by
  intro b hb
  unfold textB at hb
  split at hb
  · split at hb
    · exact isRom_ascii b (romL_rom n b hb)
    · have := dec_ascii n b hb; omega
  · split at hb
    · split at hb
      · have := letL_small n b hb; omega
      · have := dec_ascii n b hb; omega
    · rcases List.mem_append.1 hb with hb | hb
      · rw [List.eq_of_mem_replicate hb]; decide
      · have := dec_ascii n b hb; omega
theorem textB_len (n : Nat) (f : List UInt8) (h : n ≤ 1000000000) (hf : f.length ≤ 9) : (textB n f).length ≤ 60 := by
  unfold textB
  have hd := dec_len n (by omega)
  split
  · split
    · exact romL_len3 n (by omega)
    · omega
  · split
    · split
      · have := letL_len 30 n (by omega); omega
      · omega
    · simp; omega
end Go.Proofs.YtajbpjojockgoaaGreatDoor

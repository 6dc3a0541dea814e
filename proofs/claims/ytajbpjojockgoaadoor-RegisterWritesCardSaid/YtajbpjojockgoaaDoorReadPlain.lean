/-
  Roman digits read: plain laws.
-/
import Derived.Test.YtajbpjojockgoaaDoorRefGreat
import Derived.Lib.MapLaws
import Derived.Shelf.Strings.CaseAny
namespace Go.Proofs.YtajbpjojockgoaaDoor

/-- The closure of register.Roman. -/
def lowF (c : Int) : Int := if 65 ≤ c ∧ c ≤ 90 then c + 32 else c
theorem lowF_range (x : Nat) (hx : x ≤ 1114111) : -2147483648 ≤ lowF x ∧ lowF x ≤ 2147483647 := by
  unfold lowF; split <;> omega
theorem low_byte : ∀ i : Fin 128, 0 ≤ lowF (i.val : Int) ∧ Lib.encodeRune (lowF (i.val : Int)) = [Lib.lowerB (UInt8.ofNat i.val)] := by decide +kernel
theorem low_ascii : ∀ (l : List UInt8), (∀ b ∈ l, b.toNat < 128) → Lib.mapD lowF l = Lib.toLowerA l
  | [], _ => rfl
  | b :: t, ha => by
    have hb := ha b List.mem_cons_self
    have ih := low_ascii t (fun x hx => ha x (List.mem_cons_of_mem _ hx))
    rw [Lib.mapD_step lowF (b :: t) (by simp), Lib.decodeL_ascii b t hb]
    dsimp only
    have h := low_byte ⟨b.toNat, hb⟩
    dsimp only at h
    rw [if_pos h.1, h.2, List.drop_succ_cons, List.drop_zero, ih]
    simp [Lib.toLowerA]
theorem encode_le (z : Int) : (Lib.encodeRune z).length ≤ 4 := by
  unfold Lib.encodeRune Lib.encodeRuneZ
  rw [List.length_map]
  repeat' split
  all_goals simp
theorem mapD_le (f : Int → Int) : ∀ (n : Nat) (l : List UInt8), l.length ≤ n → (Lib.mapD f l).length ≤ 4 * l.length
  | 0, l, hn => by
    have : l = [] := List.eq_nil_of_length_eq_zero (by omega)
    subst this
    simp [Lib.mapD_nil]
  | n + 1, l, hn => by
    by_cases hne : l = []
    · subst hne
      simp [Lib.mapD_nil]
    · have hw := Lib.decodeL_width l
      have hle := Lib.decodeL_le l hne
      have ih := mapD_le f n (l.drop (Lib.decodeL l).2) (by rw [List.length_drop]; omega)
      rw [List.length_drop] at ih
      rw [Lib.mapD_step f l hne, List.length_append]
      have hh : (if 0 ≤ f (Lib.decodeL l).1 then Lib.encodeRune (f (Lib.decodeL l).1) else []).length ≤ 4 := by
        split
        · exact encode_le _
        · simp
      omega

/-- What the digits l come to, where n is the text s. -/
def readL (l s : List UInt8) : Int × Int :=
  if 1 ≤ romV l ∧ romV l ≤ 39999 ∧ (romL (romV l).toNat = s ∨ Lib.toUpperA (romL (romV l).toNat) = s) then (romV l, 0) else (0, 4)
/-- What register.Roman answers. -/
def rdOut (s : List UInt8) : Int × Int := if 60 < s.length then (0, 4) else readL (Lib.mapD lowF s) s
/-- What the reference answers. -/
def rfOut (s : List UInt8) : Int × Int :=
  if s = [] ∨ (s ≠ Lib.toLowerA s ∧ s ≠ Lib.toUpperA (Lib.toLowerA s)) then (0, 4)
  else if (Lib.toLowerA s).all (fun b => decide (0 < worth b)) = false then (0, 4)
  else if 1 ≤ romV (Lib.toLowerA s) ∧ romV (Lib.toLowerA s) ≤ 39999 ∧ romL (romV (Lib.toLowerA s)).toNat = Lib.toLowerA s then (romV (Lib.toLowerA s), 0) else (0, 4)
theorem worth_rom (b : UInt8) : (0 < worth b) ↔ isRom b = true := by
  have h : ∀ n < 256, decide (0 < worth (UInt8.ofNat n)) = isRom (UInt8.ofNat n) := by decide +kernel
  have := h b.toNat b.toNat_lt
  rw [UInt8.ofNat_toNat] at this
  rw [← this]; simp
theorem rom_lower : ∀ b : UInt8, isRom b = true → Lib.lowerB b = b ∧ Lib.lowerB (Lib.upperB b) = b := by
  have h : ∀ n < 256, isRom (UInt8.ofNat n) = true → Lib.lowerB (UInt8.ofNat n) = UInt8.ofNat n ∧ Lib.lowerB (Lib.upperB (UInt8.ofNat n)) = UInt8.ofNat n := by decide +kernel
  intro b
  have := h b.toNat b.toNat_lt
  rwa [UInt8.ofNat_toNat] at this
theorem lower_rom (l : List UInt8) (h : ∀ b ∈ l, isRom b = true) : Lib.toLowerA l = l ∧ Lib.toLowerA (Lib.toUpperA l) = l := by
  unfold Lib.toLowerA Lib.toUpperA
  induction l with
  | nil => exact ⟨rfl, rfl⟩
  | cons a r ih =>
    have h1 := rom_lower a (h a List.mem_cons_self)
    have h2 := ih (fun b hb => h b (List.mem_cons_of_mem _ hb))
    simp only [List.map_cons, h1.1, h1.2, h2.1, h2.2, and_self]
theorem lowerB_high : ∀ b : UInt8, (Lib.lowerB b).toNat < 128 → b.toNat < 128 := by
  have h : ∀ n < 256, (Lib.lowerB (UInt8.ofNat n)).toNat < 128 → n < 128 := by decide +kernel
  intro b
  have := h b.toNat b.toNat_lt
  rwa [UInt8.ofNat_toNat] at this
theorem upperB_high : ∀ b : UInt8, b.toNat < 128 → (Lib.upperB b).toNat < 128 := by
  have h : ∀ n < 128, (Lib.upperB (UInt8.ofNat n)).toNat < 128 := by decide +kernel
  intro b hb
  have := h b.toNat hb
  rwa [UInt8.ofNat_toNat] at this
theorem rom_ascii (n : Nat) (s : List UInt8) (h : romL n = s ∨ Lib.toUpperA (romL n) = s) : ∀ b ∈ s, b.toNat < 128 := by
  rcases h with h | h
  · rw [← h]; exact fun b hb => isRom_ascii b (romL_rom n b hb)
  · rw [← h]
    intro b hb
    obtain ⟨c, hc, rfl⟩ := List.mem_map.1 hb
    exact upperB_high c (isRom_ascii c (romL_rom n c hc))
theorem lower_len (s : List UInt8) : (Lib.toLowerA s).length = s.length := by unfold Lib.toLowerA; rw [List.length_map]
/-- Both answer alike. -/
theorem rd_rf (s : List UInt8) : rdOut s = rfOut s := by
  have key : ∀ n : Int, (1 ≤ n ∧ n ≤ 39999 ∧ (romL n.toNat = s ∨ Lib.toUpperA (romL n.toNat) = s)) → Lib.mapD lowF s = romL n.toNat ∧ Lib.toLowerA s = romL n.toNat ∧ s.length ≤ 60 := by
    intro n ⟨h1, h2, h3⟩
    have ha := rom_ascii _ s h3
    have hl := lower_rom (romL n.toNat) (romL_rom _)
    have h4 : Lib.toLowerA s = romL n.toNat := by
      rcases h3 with h | h
      · rw [← h]; exact hl.1
      · rw [← h]; exact hl.2
    refine ⟨by rw [low_ascii s ha, h4], h4, ?_⟩
    rw [← lower_len, h4]
    have := romL_len n.toNat (by omega); omega
  by_cases hc : 1 ≤ romV (Lib.toLowerA s) ∧ romV (Lib.toLowerA s) ≤ 39999 ∧ (romL (romV (Lib.toLowerA s)).toNat = s ∨ Lib.toUpperA (romL (romV (Lib.toLowerA s)).toNat) = s)
  · obtain ⟨k1, k2, k3⟩ := key _ hc
    have e1 : rdOut s = (romV (Lib.toLowerA s), 0) := by
      unfold rdOut readL
      rw [if_neg (by omega), show Lib.mapD lowF s = Lib.toLowerA s from k1.trans k2.symm, if_pos hc]
    have e2 : rfOut s = (romV (Lib.toLowerA s), 0) := by
      unfold rfOut
      have hne : s ≠ [] := by
        intro h
        rw [h] at hc
        exact absurd hc.1 (by decide)
      rw [if_neg (by
        rintro (h | ⟨h1, h2⟩)
        · exact hne h
        · rcases hc.2.2 with h | h
          · exact h1 (h.symm.trans k2.symm)
          · exact h2 (by rw [k2]; exact h.symm)), if_neg (by
        rw [Bool.eq_false_iff, Ne, Classical.not_not, List.all_eq_true]
        intro b hb
        rw [k2] at hb
        exact decide_eq_true ((worth_rom b).2 (romL_rom _ b hb))), if_pos ⟨hc.1, hc.2.1, k2.symm⟩]
    rw [e1, e2]
  · have e1 : rdOut s = (0, 4) := by
      unfold rdOut readL
      split
      · rfl
      · rw [if_neg]
        intro h
        obtain ⟨k1, k2, k3⟩ := key _ h
        rw [k1.trans k2.symm] at h
        exact hc h
    have e2 : rfOut s = (0, 4) := by
      unfold rfOut
      split
      · rfl
      · rename_i h1
        split
        · rfl
        · rw [if_neg]
          rintro ⟨g1, g2, g3⟩
          simp only [not_or, not_and, Ne, Classical.not_not] at h1
          refine hc ⟨g1, g2, ?_⟩
          rw [g3]
          by_cases h : s = Lib.toLowerA s
          · exact .inl h.symm
          · exact .inr (h1.2 h).symm
    rw [e1, e2]
/-- Both read what both write. -/
theorem rd_small (n : Nat) (h0 : 0 < n) (h : n < 40000) : rdOut (romL n) = ((n : Int), 0) ∧ rdOut (Lib.toUpperA (romL n)) = ((n : Int), 0) := by
  have hl := lower_rom (romL n) (romL_rom n)
  have hv := romV_romL n
  have ha : ∀ s, (s = romL n ∨ s = Lib.toUpperA (romL n)) → rdOut s = ((n : Int), 0) := by
    intro s hs
    have h3 : romL n = s ∨ Lib.toUpperA (romL n) = s := hs.imp Eq.symm Eq.symm
    have e : Lib.toLowerA s = romL n := by rcases hs with rfl | rfl; exact hl.1; exact hl.2
    have hlen : s.length ≤ 60 := by rw [← lower_len, e]; have := romL_len n h; omega
    unfold rdOut readL
    rw [if_neg (by omega), low_ascii s (rom_ascii n s h3), e, hv, if_pos ⟨by omega, by omega, by simpa using h3⟩]
  exact ⟨ha _ (.inl rfl), ha _ (.inr rfl)⟩
end Go.Proofs.YtajbpjojockgoaaDoor

/- Plain numbers of an interface: how many inputs, outputs and letters; no program in sight. No conditions. -/
namespace Go.Proofs.Ytknkdgacdeeemaa

/-- x lies from lo to hi. -/
def inR (x lo hi : Int) : Bool := decide (lo ≤ x ∧ x ≤ hi)
theorem inR_yes {x lo hi : Int} (h : lo ≤ x ∧ x ≤ hi) : inR x lo hi = true := by unfold inR; simp [h]
theorem inR_no {x lo hi : Int} (h : ¬ (lo ≤ x ∧ x ≤ hi)) : inR x lo hi = false := by unfold inR; simp; omega

/-- An interface: how many bits come in, how many go out. -/
structure SigT where
  i : Int
  o : Int

def sigOk (s : SigT) : Bool := decide (1 ≤ s.i ∧ s.i ≤ 2 ∧ 1 ≤ s.o ∧ s.o ≤ 2)

def p2 (n : Int) : Int := 2 ^ n.toNat

theorem p2_1 : p2 1 = 2 := rfl
theorem p2_2 : p2 2 = 4 := rfl
theorem p2_3 : p2 3 = 8 := rfl
theorem p2_4 : p2 4 = 16 := rfl

def letters (s : SigT) : Int := if sigOk s then p2 (s.i + s.o) else 0

def letterOf (s : SigT) (i o : Int) : Int := if sigOk s = true ∧ (0 ≤ i ∧ i < p2 s.i) ∧ (0 ≤ o ∧ o < p2 s.o) then o * p2 s.i + i else -1

def inOf (s : SigT) (k : Int) : Int := if sigOk s = true ∧ 0 ≤ k ∧ k < letters s then k % p2 s.i else -1
def outOf (s : SigT) (k : Int) : Int := if sigOk s = true ∧ 0 ≤ k ∧ k < letters s then k / p2 s.i else -1

theorem sig_cases {s : SigT} (h : sigOk s = true) : (s.i = 1 ∨ s.i = 2) ∧ (s.o = 1 ∨ s.o = 2) := by
  unfold sigOk at h; simp at h; omega

theorem sig_mk {s : SigT} (h1 : 1 ≤ s.i) (h2 : s.i ≤ 2) (h3 : 1 ≤ s.o) (h4 : s.o ≤ 2) : sigOk s = true := by
  unfold sigOk; simp; omega

theorem sig_no {s : SigT} (h : s.i < 1 ∨ 2 < s.i ∨ s.o < 1 ∨ 2 < s.o) : sigOk s = false := by
  unfold sigOk; simp; omega

theorem letters_ok {s : SigT} (h : sigOk s = true) : letters s = p2 (s.i + s.o) := by unfold letters; rw [if_pos h]
theorem letters_no {s : SigT} (h : sigOk s = false) : letters s = 0 := by unfold letters; rw [h]; simp

theorem letters_bd (s : SigT) : 0 ≤ letters s ∧ letters s ≤ 16 := by
  cases h : sigOk s
  · rw [letters_no h]; omega
  · rw [letters_ok h]
    obtain ⟨h1, h2⟩ := sig_cases h
    rcases h1 with h1 | h1 <;> rcases h2 with h2 | h2 <;> rw [h1, h2] <;> decide

theorem p2_i {s : SigT} (h : sigOk s = true) : p2 s.i = 2 ∨ p2 s.i = 4 := by
  obtain ⟨h1, _⟩ := sig_cases h
  rcases h1 with h1 | h1 <;> rw [h1] <;> decide

theorem p2_o {s : SigT} (h : sigOk s = true) : p2 s.o = 2 ∨ p2 s.o = 4 := by
  obtain ⟨_, h1⟩ := sig_cases h
  rcases h1 with h1 | h1 <;> rw [h1] <;> decide

theorem letters_mul {s : SigT} (h : sigOk s = true) : letters s = p2 s.o * p2 s.i := by
  rw [letters_ok h]
  obtain ⟨h1, h2⟩ := sig_cases h
  rcases h1 with h1 | h1 <;> rcases h2 with h2 | h2 <;> rw [h1, h2] <;> decide

end Go.Proofs.Ytknkdgacdeeemaa

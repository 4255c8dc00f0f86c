/- Numbers as digits of 24 bits, the lowest first. Plain: no program here. -/
namespace Go.Dig

def val : List Int → Int
  | [] => 0
  | d :: l => d + 16777216 * val l
def Dig (l : List Int) : Prop := ∀ d ∈ l, 0 ≤ d ∧ d < 16777216
/-- A number's digits, without noughts at the end. -/
def dg (n : Nat) : List Int := if n = 0 then [] else ((n % 16777216 : Nat) : Int) :: dg (n / 16777216)
termination_by n
decreasing_by omega

theorem dg_zero : dg 0 = [] := by rw [dg]; simp
theorem dg_pos {n : Nat} (h : 0 < n) : dg n = ((n % 16777216 : Nat) : Int) :: dg (n / 16777216) := by rw [dg, if_neg (by omega)]
theorem Dig.nil : Dig [] := fun _ h => by cases h
theorem Dig.cons {d : Int} {l : List Int} (h0 : 0 ≤ d) (h1 : d < 16777216) (h : Dig l) : Dig (d :: l) := fun x hx => by
  rcases List.mem_cons.1 hx with rfl | hx
  · exact ⟨h0, h1⟩
  · exact h x hx
theorem Dig.tail {d : Int} {l : List Int} (h : Dig (d :: l)) : Dig l := fun x hx => h x (List.mem_cons_of_mem _ hx)
theorem Dig.head {d : Int} {l : List Int} (h : Dig (d :: l)) : 0 ≤ d ∧ d < 16777216 := h d (by simp)
theorem Dig.append {a b : List Int} (h : Dig a) (k : Dig b) : Dig (a ++ b) := fun x hx => by
  rcases List.mem_append.1 hx with hx | hx
  · exact h x hx
  · exact k x hx
theorem Dig.take {a : List Int} (h : Dig a) (n : Nat) : Dig (a.take n) := fun x hx => h x (List.mem_of_mem_take hx)
theorem Dig.drop {a : List Int} (h : Dig a) (n : Nat) : Dig (a.drop n) := fun x hx => h x (List.mem_of_mem_drop hx)
theorem Dig.get {a : List Int} (h : Dig a) (n : Nat) (hn : n < a.length) : 0 ≤ a[n] ∧ a[n] < 16777216 := h _ (List.getElem_mem hn)
theorem Dig.dg (n : Nat) : Dig (dg n) := by
  induction n using Nat.strongRecOn with
  | _ n ih =>
    by_cases h : n = 0
    · subst h; rw [dg_zero]; exact Dig.nil
    · rw [dg_pos (by omega)]; exact Dig.cons (by omega) (by omega) (ih _ (by omega))
theorem val_nonneg : ∀ {l : List Int}, Dig l → 0 ≤ val l
  | [], _ => by simp [val]
  | d :: l, h => by have := val_nonneg h.tail; have := h.head; simp only [val]; omega
theorem val_dg (n : Nat) : val (dg n) = n := by
  induction n using Nat.strongRecOn with
  | _ n ih =>
    by_cases h : n = 0
    · subst h; rw [dg_zero]; rfl
    · rw [dg_pos (by omega)]; simp only [val]; rw [ih _ (by omega)]; omega
theorem val_append (a b : List Int) : val (a ++ b) = val a + 16777216 ^ a.length * val b := by
  induction a with
  | nil => simp [val]
  | cons d a ih =>
    simp only [List.cons_append, val, ih, List.length_cons, Int.pow_succ]
    rw [Int.mul_add, ← Int.add_assoc]
    congr 1
    rw [Int.mul_comm (16777216 ^ a.length) 16777216, Int.mul_assoc]
theorem val_lt : ∀ {l : List Int}, Dig l → val l < 16777216 ^ l.length
  | [], _ => by simp [val]
  | d :: l, h => by
    have h1 := val_lt h.tail
    have h2 := h.head
    simp only [val, List.length_cons, Int.pow_succ]
    generalize (16777216 : Int) ^ l.length = p at *
    omega
theorem val_snoc (l : List Int) (d : Int) : val (l ++ [d]) = val l + 16777216 ^ l.length * d := by
  rw [val_append]; simp [val]
theorem val_replicate (n : Nat) : val (List.replicate n 0) = 0 := by
  induction n with
  | zero => rfl
  | succ n ih => simp [List.replicate_succ, val, ih]
theorem Dig.replicate (n : Nat) : Dig (List.replicate n 0) := fun x hx => by
  have := List.eq_of_mem_replicate hx; omega
/-- Digits whose highest is no nought are the digits of their number. -/
theorem dg_val_cons : ∀ {l : List Int}, Dig l → (∀ d, l.getLast? = some d → d ≠ 0) → dg (val l).toNat = l
  | [], _, _ => by simp only [val, Int.toNat_zero]; exact dg_zero
  | d :: l, h, hl => by
    have h1 := h.head
    have h2 := val_nonneg h.tail
    have hne : val (d :: l) ≠ 0 := by
      intro e
      simp only [val] at e
      have hd : d = 0 := by omega
      have hv : val l = 0 := by omega
      cases l with
      | nil => exact hl d rfl hd
      | cons e' l' =>
        have ih := dg_val_cons h.tail (fun x hx => hl x (by rw [List.getLast?_cons_cons]; exact hx))
        rw [hv] at ih
        simp only [Int.toNat_zero] at ih
        rw [dg_zero] at ih
        cases ih
    have hl' : ∀ x, l.getLast? = some x → x ≠ 0 := by
      intro x hx
      cases l with
      | nil => cases hx
      | cons e' l' => exact hl x (by rw [List.getLast?_cons_cons]; exact hx)
    have hp : 0 < (val (d :: l)).toNat := by simp only [val] at hne ⊢; omega
    rw [dg_pos hp]
    have e1 : (val (d :: l)).toNat / 16777216 = (val l).toNat := by simp only [val]; omega
    have e2 : (((val (d :: l)).toNat % 16777216 : Nat) : Int) = d := by simp only [val]; omega
    rw [e1, e2, dg_val_cons h.tail hl']
theorem dg_snoc {l : List Int} {d : Int} (h : Dig (l ++ [d])) (hd : d ≠ 0) : dg (val (l ++ [d])).toNat = l ++ [d] :=
  dg_val_cons h (fun x hx => by simp at hx; omega)
theorem dg_length_lt {n k : Nat} (h : n < 16777216 ^ k) : (dg n).length ≤ k := by
  induction k generalizing n with
  | zero => have : n = 0 := by simpa using h
            subst this; simp [dg_zero]
  | succ k ih =>
    by_cases h0 : n = 0
    · subst h0; simp [dg_zero]
    · rw [dg_pos (by omega), List.length_cons]
      have := ih (n := n / 16777216) (by rw [Nat.pow_succ] at h; exact Nat.div_lt_of_lt_mul (by rw [Nat.mul_comm]; exact h))
      omega
theorem lt_of_dg_length (n : Nat) : n < 16777216 ^ (dg n).length := by
  have := val_lt (Dig.dg n)
  rw [val_dg] at this
  have e : ((16777216 : Int) ^ (dg n).length) = ((16777216 ^ (dg n).length : Nat) : Int) := by rw [Int.natCast_pow]; rfl
  rw [e] at this
  exact Int.ofNat_lt.1 this
/-- The highest digit is none. -/
theorem dg_last {n : Nat} : ∀ d, (dg n).getLast? = some d → d ≠ 0 := by
  induction n using Nat.strongRecOn with
  | _ n ih =>
    intro d hd
    by_cases h : n = 0
    · subst h; rw [dg_zero] at hd; cases hd
    · rw [dg_pos (by omega)] at hd
      by_cases h1 : n / 16777216 = 0
      · rw [h1, dg_zero] at hd
        simp at hd
        omega
      · rw [dg_pos (by omega), List.getLast?_cons_cons, ← dg_pos (by omega)] at hd
        exact ih _ (by omega) d hd
theorem dg_nil_iff {n : Nat} : dg n = [] ↔ n = 0 := by
  constructor
  · intro h
    have := val_dg n
    rw [h] at this
    simp only [val] at this
    omega
  · rintro rfl; exact dg_zero
theorem take_snoc' (l : List Int) (i : Nat) (h : i < l.length) : l.take (i + 1) = l.take i ++ [l[i]] := List.take_succ_eq_append_getElem h
theorem val_take_succ (l : List Int) (i : Nat) (h : i < l.length) : val (l.take (i + 1)) = val (l.take i) + 16777216 ^ i * l[i] := by
  rw [take_snoc' l i h, val_snoc, List.length_take, Nat.min_eq_left (by omega)]
end Go.Dig

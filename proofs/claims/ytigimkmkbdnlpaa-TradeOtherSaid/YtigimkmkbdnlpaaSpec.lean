/- What trade and its reference compute, in plain Lean, and what the walks' loops keep. No program in sight. -/
import Derived.Test.YtigimkmkbdnlpaaWalk
namespace Go.Proofs.Ytigimkmkbdnlpaa
open Go.RowKit

/-- Is it a message of trade? -/
def OkMsg (m : Msg) : Prop := (1 ≤ m.kind ∧ m.kind ≤ 4) ∧ (0 ≤ m.frm ∧ m.frm ≤ 11) ∧ (0 ≤ m.to ∧ m.to ≤ 11) ∧ m.frm ≠ m.to ∧ (0 ≤ m.no ∧ m.no ≤ 4095) ∧ (0 ≤ m.item ∧ m.item ≤ 31) ∧ (1 ≤ m.amount ∧ m.amount ≤ 1048576) ∧ (0 ≤ m.day ∧ m.day ≤ 1023) ∧
  (0 ≤ m.label ∧ m.label ≤ 4095) ∧ ((m.kind = 1 ∨ m.kind = 2) → m.label = 0) ∧ m.ln = 0 ∧ m.vn = 0 ∧ m.rn = 0 ∧ m.sl = Msg.zero.sl
instance (m : Msg) : Decidable (OkMsg m) := by unfold OkMsg; infer_instance
def ok (m : Msg) : Bool := decide (OkMsg m)
def begins (m : Msg) : Bool := m.kind == 1 || m.kind == 3
def same (a b : Msg) : Bool := a.kind == b.kind && a.frm == b.frm && a.to == b.to && a.no == b.no && a.item == b.item && a.amount == b.amount && a.day == b.day && a.label == b.label && (a.ln : Int) == (b.ln : Int) && (a.vn : Int) == (b.vn : Int) && (a.rn : Int) == (b.rn : Int) && a.sl == b.sl
def fewM (m : Msg) : Bool := decide ((m.ln : Int) ≤ 8) && decide ((m.vn : Int) ≤ 8) && decide ((m.rn : Int) ≤ 8)
def fewL (ms : List Msg) : Bool := ms.all fewM && decide (ms.length ≤ 20)
def few (t : Trade) : Bool := fewL t.placed && fewL t.received && fewL t.done
def sameL : List Msg → List Msg → Bool
  | [], [] => true
  | a :: xs, b :: bs => same a b && sameL xs bs
  | _, _ => false
def sameT (a b : Trade) : Bool := a.next == b.next && sameL a.placed b.placed && sameL a.received b.received && sameL a.done b.done
/-- The answer, xs trade makes it and xs its reference makes it. -/
def ansW (m : Msg) : Msg := { m with kind := IntKind.i64.wrap (m.kind + 1), frm := m.to, to := m.frm }
def ansR (m : Msg) : Msg := { m with kind := if m.kind = 1 then 2 else 4, frm := m.to, to := m.frm }
def nums (a b : Msg) : Bool := (a.kind == b.kind) && (a.frm == b.frm) && (a.to == b.to) && (a.no == b.no) && (a.item == b.item) && (a.amount == b.amount) && (a.day == b.day) && (a.label == b.label)
def nth (ms : List Msg) (i : Nat) : Msg := (ms[i]?).getD Msg.zero
/-- Is m the answer to one of these? -/
def answ (m : Msg) (ms : List Msg) : Bool := decide (0 ≤ m.no ∧ m.no ≤ (ms.length : Int) - 1) && begins (nth ms m.no.toNat) && nums (ansW (nth ms m.no.toNat)) m
/-- The index of the first element with a property; -1 if there is none. -/
def fnd (p : Msg → Bool) : List Msg → Int
  | [] => -1
  | m :: ms => if p m then 0 else if fnd p ms < 0 then -1 else fnd p ms + 1
def hasNo (n : Int) (ms : List Msg) : Bool := ms.any fun m => m.no == n

theorem nth_some {ms : List Msg} {i : Nat} (h : i < ms.length) : ms[i]? = some (nth ms i) := by simp [nth, List.getElem?_eq_getElem h]
theorem mem_of {ms : List Msg} {i : Nat} {m : Msg} (h : ms[i]? = some m) : m ∈ ms := List.mem_of_getElem? h
theorem lt_of {ms : List Msg} {i : Nat} {m : Msg} (h : ms[i]? = some m) : i < ms.length := by
  rcases Nat.lt_or_ge i ms.length with h1 | h1
  · exact h1
  · rw [List.getElem?_eq_none h1] at h; cases h
theorem take_next {ms : List Msg} {i : Nat} {m : Msg} (h : ms[i]? = some m) : ms.take (i + 1) = ms.take i ++ [m] := by
  rw [List.take_add_one, h]; rfl
theorem take_zero (ms : List Msg) (P : Msg → Prop) : ∀ x ∈ ms.take 0, P x := by simp
theorem take_step {ms : List Msg} {i : Nat} {m : Msg} {P : Msg → Prop} (h : ms[i]? = some m) (hs : ∀ x ∈ ms.take i, P x) (hp : P m) : ∀ x ∈ ms.take (i + 1), P x := by
  rw [take_next h]
  intro x hx
  simp only [List.mem_append, List.mem_cons, List.not_mem_nil, or_false] at hx
  rcases hx with hx | rfl
  · exact hs x hx
  · exact hp
theorem take_all {ms : List Msg} {i : Nat} {P : Msg → Prop} (h : i = ms.length) (hs : ∀ x ∈ ms.take i, P x) : ∀ x ∈ ms, P x := by
  subst h; simpa using hs
def Upto (P : Nat → Msg → Prop) (ms : List Msg) (i : Nat) : Prop := ∀ j m, j < i → ms[j]? = some m → P j m
theorem Upto.zero (P : Nat → Msg → Prop) (ms : List Msg) : Upto P ms 0 := fun _ _ h => absurd h (Nat.not_lt_zero _)
theorem Upto.step {P : Nat → Msg → Prop} {ms : List Msg} {i : Nat} {m : Msg} (h : Upto P ms i) (hm : ms[i]? = some m) (hp : P i m) : Upto P ms (i + 1) := by
  intro j x hj hx
  rcases Nat.lt_or_eq_of_le (Nat.le_of_lt_succ hj) with h1 | rfl
  · exact h j x h1 hx
  · rw [hm] at hx; cases hx; exact hp
theorem Upto.all {P : Nat → Msg → Prop} {ms : List Msg} {i : Nat} (h : Upto P ms i) (hi : i = ms.length) : ∀ j m, ms[j]? = some m → P j m :=
  fun j m hm => h j m (hi ▸ lt_of hm) hm

theorem fewL_no {ms : List Msg} {i : Nat} {m : Msg} (h : ms[i]? = some m) (hk : (!fewM m) = true) : false = fewL ms := by
  have : ms.all fewM = false := by
    rw [List.all_eq_false]
    exact ⟨m, mem_of h, by simpa using hk⟩
  simp [fewL, this]
theorem fewL_yes {ms : List Msg} {i n : Nat} (hn : n = ms.length) (hi : i = n) (hs : ∀ x ∈ ms.take i, fewM x = true) : decide ((n : Int) ≤ 20) = fewL ms := by
  subst hn
  have : ms.all fewM = true := List.all_eq_true.2 (take_all hi hs)
  simp only [fewL, this, Bool.true_and]
  exact decide_eq_decide.2 (by omega)
theorem sameL_iff {xs bs : List Msg} (h : xs.length = bs.length) : sameL xs bs = true ↔ ∀ (j : Nat) a b, xs[j]? = some a → bs[j]? = some b → same a b = true := by
  induction xs generalizing bs with
  | nil => cases bs with
    | nil => simp [sameL]
    | cons => simp at h
  | cons a xs ih => cases bs with
    | nil => simp at h
    | cons b bs =>
      simp only [List.length_cons, Nat.add_right_cancel_iff] at h
      simp only [sameL, Bool.and_eq_true, ih h]
      constructor
      · rintro ⟨h1, h2⟩ j x y hx hy
        cases j with
        | zero => simp only [List.getElem?_cons_zero, Option.some.injEq] at hx hy; subst hx; subst hy; exact h1
        | succ j => exact h2 j x y (by simpa using hx) (by simpa using hy)
      · intro hh
        exact ⟨hh 0 a b rfl rfl, fun j x y hx hy => hh (j + 1) x y (by simpa using hx) (by simpa using hy)⟩
theorem sameL_len {xs bs : List Msg} (h : xs.length ≠ bs.length) : sameL xs bs = false := by
  induction xs generalizing bs with
  | nil => cases bs with
    | nil => simp at h
    | cons => rfl
  | cons a xs ih => cases bs with
    | nil => rfl
    | cons b bs =>
      have : xs.length ≠ bs.length := by simpa using h
      simp [sameL, ih this]
theorem sameL_no {xs bs : List Msg} {n k i : Nat} {a b : Msg} (hn : n = xs.length) (hk : k = bs.length) (he : ((n : Int) != (k : Int)) = false) (ha : xs[i]? = some a) (hb : bs[i]? = some b) (hs : (!same a b) = true) : false = sameL xs bs := by
  have hl : xs.length = bs.length := by simp at he; omega
  cases h : sameL xs bs with
  | false => rfl
  | true => have := (sameL_iff hl).1 h i a b ha hb; simp [this] at hs
theorem sameL_yes {xs bs : List Msg} {n k i : Nat} (hn : n = xs.length) (hk : k = bs.length) (he : ((n : Int) != (k : Int)) = false) (hi : i = n) (hu : Upto (fun j a => ∀ b, bs[j]? = some b → same a b = true) xs i) : true = sameL xs bs := by
  have hl : xs.length = bs.length := by simp at he; omega
  exact ((sameL_iff hl).2 fun j a b ha hb => hu.all (hi.trans hn) j a ha b hb).symm
theorem sameL_ne {xs bs : List Msg} {n k : Nat} (hn : n = xs.length) (hk : k = bs.length) (he : ((n : Int) != (k : Int)) = true) : false = sameL xs bs := by
  rw [sameL_len]; simp at he; omega
theorem same_len {bs : List Msg} {n k i : Nat} (hk : k = bs.length) (he : ((n : Int) != (k : Int)) = false) (hi : i < n) : i < bs.length := by simp at he; omega
theorem hasNo_yes {n : Int} {ms : List Msg} {i : Nat} {m : Msg} (h : ms[i]? = some m) (hk : (m.no == n) = true) : true = hasNo n ms := by
  symm; rw [hasNo, List.any_eq_true]; exact ⟨m, mem_of h, hk⟩
theorem hasNo_no {n : Int} {ms : List Msg} {i k : Nat} (hk : k = ms.length) (hi : i = k) (hs : ∀ x ∈ ms.take i, (x.no == n) = false) : false = hasNo n ms := by
  symm; rw [hasNo, List.any_eq_false]; intro x hx; simp [take_all (hi.trans hk) hs x hx]
theorem fnd_at {p : Msg → Bool} {ms : List Msg} {i : Nat} {m : Msg} (h : ms[i]? = some m) (hk : p m = true) (hs : ∀ x ∈ ms.take i, p x = false) : ((i : Nat) : Int) = fnd p ms := by
  induction ms generalizing i with
  | nil => simp at h
  | cons a xs ih =>
    cases i with
    | zero => simp at h; subst h; simp [fnd, hk]
    | succ i =>
      have ha : p a = false := hs a (by simp)
      have := ih (i := i) (by simpa using h) fun x hx => hs x (by simp [hx])
      rw [fnd, ha, ← this]
      have : ¬ ((i : Int) < 0) := by omega
      simp [this]
theorem fnd_none {p : Msg → Bool} {ms : List Msg} {i k : Nat} (hk : k = ms.length) (hi : i = k) (hs : ∀ x ∈ ms.take i, p x = false) : (-1 : Int) = fnd p ms := by
  have hh := take_all (hi.trans hk) hs
  clear hi hk hs
  induction ms with
  | nil => rfl
  | cons a xs ih => rw [fnd, hh a (by simp), ← ih fun x hx => hh x (by simp [hx])]; simp
theorem fnd_neg {p : Msg → Bool} {ms : List Msg} (h : fnd p ms < 0) : ∀ m ∈ ms, p m = false := by
  induction ms with
  | nil => simp
  | cons a xs ih =>
    rw [fnd] at h
    split at h
    · omega
    · rename_i ha
      split at h
      · rename_i hn
        intro m hm
        simp only [List.mem_cons] at hm
        rcases hm with rfl | hm
        · simpa using ha
        · exact ih hn m hm
      · omega
theorem fnd_pos {p : Msg → Bool} {ms : List Msg} (h : 0 ≤ fnd p ms) : ∃ m, ms[(fnd p ms).toNat]? = some m ∧ p m = true ∧ (fnd p ms).toNat < ms.length := by
  induction ms with
  | nil => simp [fnd] at h
  | cons a xs ih =>
    rw [fnd] at h ⊢
    split
    · rename_i ha; exact ⟨a, by simp, ha, by simp⟩
    · rename_i ha
      rw [if_neg ha] at h
      split
      · rename_i hn; rw [if_pos hn] at h; omega
      · rename_i hn
        obtain ⟨m, h1, h2, h3⟩ := ih (by omega)
        have e : (fnd p xs + 1).toNat = (fnd p xs).toNat + 1 := by omega
        refine ⟨m, by rw [e]; simpa using h1, h2, by rw [e]; simpa using h3⟩
end Go.Proofs.Ytigimkmkbdnlpaa

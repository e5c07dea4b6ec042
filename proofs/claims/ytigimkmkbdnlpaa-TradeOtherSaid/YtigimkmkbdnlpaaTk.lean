/- What Take computes. -/
import Derived.Test.YtigimkmkbdnlpaaPl
namespace Go.Proofs.Ytigimkmkbdnlpaa
open Go.RowKit

abbrev TakeT := Trade × List Msg × Bool × Int
def isK (m r : Msg) : Bool := r.frm == m.frm && r.no == m.no
def recvR (t : Trade) (m : Msg) : TakeT :=
  if 0 ≤ fnd (fun r => r.frm == m.frm && r.no == m.no) t.received then
    if nums (nth t.received (fnd (fun r => r.frm == m.frm && r.no == m.no) t.received).toNat) m = true then (t, [ansW m], false, 0) else (Trade.zero, [], false, 480)
  else if 4096 ≤ t.received.length then (Trade.zero, [], false, 2)
  else ({ t with received := t.received ++ [m] }, [ansW m], true, 0)
noncomputable def takeR (t : Trade) (m : Msg) (id : Int) : TakeT :=
  if chk t id = 480 then (Trade.zero, [], false, 480)
  else if ¬ (ok m = true ∧ m.to = id) then (Trade.zero, [], false, 480)
  else if begins m = true then recvR t m
  else if answ m t.placed = false then (Trade.zero, [], false, 480)
  else if hasNo m.no t.done = true then (t, [], false, 0)
  else ({ t with done := t.done ++ [m] }, [], true, 0)
/-! ### receive -/
section
variable {t : Trade} {m x : Msg}
abbrev keyP (m : Msg) : Msg → Bool := fun r => r.frm == m.frm && r.no == m.no
theorem recv_1 (k1 : decide ((0 : Int) ≤ fnd (fun r => r.frm == m.frm && r.no == m.no) t.received) = true) (hx : t.received[(fnd (fun r => r.frm == m.frm && r.no == m.no) t.received).toNat]? = some x) (k2 : (!nums x m) = true) : recvR t m = (Trade.zero, [], false, 480) := by
  rw [recvR, if_pos (of_decide_eq_true k1), nth_of hx, if_neg (by simpa using k2)]
theorem recv_2 (k1 : decide ((0 : Int) ≤ fnd (fun r => r.frm == m.frm && r.no == m.no) t.received) = true) (hx : t.received[(fnd (fun r => r.frm == m.frm && r.no == m.no) t.received).toNat]? = some x) (k2 : (!nums x m) = false) : recvR t m = (t, [ansW m], false, 0) := by
  rw [recvR, if_pos (of_decide_eq_true k1), nth_of hx, if_pos (by simpa using k2)]
theorem recv_3 {n : Nat} (hn : n = t.received.length) (k1 : decide ((0 : Int) ≤ fnd (fun r => r.frm == m.frm && r.no == m.no) t.received) = false) (k3 : decide ((4096 : Int) ≤ ((n : Nat) : Int)) = true) : recvR t m = (Trade.zero, [], false, 2) := by
  have h := of_decide_eq_true k3
  rw [recvR, if_neg (of_decide_eq_false k1), if_pos (by omega)]
theorem recv_4 {n : Nat} (hn : n = t.received.length) (k1 : decide ((0 : Int) ≤ fnd (fun r => r.frm == m.frm && r.no == m.no) t.received) = false) (k3 : decide ((4096 : Int) ≤ ((n : Nat) : Int)) = false) : recvR t m = ({ t with received := t.received ++ [m] }, [ansW m], true, 0) := by
  have h := of_decide_eq_false k3
  rw [recvR, if_neg (of_decide_eq_false k1), if_neg (by omega)]
end
/-! ### Take -/
section
variable {t : Trade} {m x : Msg} {id : Int}
theorem fnd_hasNo (n : Int) (l : List Msg) : 0 ≤ fnd (fun d => d.no == n) l ↔ hasNo n l = true := by
  constructor
  · intro h
    obtain ⟨x, hx, hp, _⟩ := fnd_pos h
    rw [hasNo, List.any_eq_true]
    exact ⟨x, mem_of hx, hp⟩
  · intro h
    rcases Int.lt_or_le (fnd (fun d => d.no == n) l) 0 with h1 | h1
    · rw [hasNo, List.any_eq_true] at h
      obtain ⟨x, hx, hp⟩ := h
      rw [fnd_neg h1 x hx] at hp
      cases hp
    · exact h1
theorem take_1 (k1 : (chk t id != 0) = true) : takeR t m id = (Trade.zero, [], false, chk t id) := by
  rw [takeR, if_pos (chk_ne k1), chk_ne k1]
theorem notk {k1 : (chk t id != 0) = false} : ¬ chk t id = 480 := by rw [chk_eq k1]; decide
theorem take_2 (k1 : (chk t id != 0) = false) (k2 : ((!ok m) || ((m.to : Int) != id)) = true) : takeR t m id = (Trade.zero, [], false, 480) := by
  rw [takeR, if_neg (notk (k1 := k1)), if_pos]
  rintro ⟨h1, h2⟩
  simp [h1, h2] at k2
theorem notk2 (k2 : ((!ok m) || ((m.to : Int) != id)) = false) : ¬ ¬ (ok m = true ∧ m.to = id) := by simpa using k2
theorem take_3 (k1 : (chk t id != 0) = false) (k2 : ((!ok m) || ((m.to : Int) != id)) = false) (k3 : ((m.kind : Int) == 1 || (m.kind : Int) == 3) = true) : takeR t m id = ((recvR t m).1, (recvR t m).2.1, (recvR t m).2.2.1, (recvR t m).2.2.2) := by
  rw [takeR, if_neg (notk (k1 := k1)), if_neg (notk2 k2), if_pos (show begins m = true from k3)]
theorem notb {k3 : ((m.kind : Int) == 1 || (m.kind : Int) == 3) = false} : ¬ begins m = true := by rw [show begins m = false from k3]; decide
theorem take_4 (k1 : (chk t id != 0) = false) (k2 : ((!ok m) || ((m.to : Int) != id)) = false) (k3 : ((m.kind : Int) == 1 || (m.kind : Int) == 3) = false) (k4 : (!answ m t.placed) = true) : takeR t m id = (Trade.zero, [], false, 480) := by
  rw [takeR, if_neg (notk (k1 := k1)), if_neg (notk2 k2), if_neg (notb (k3 := k3)), if_pos (by simpa using k4)]
theorem take_5 (k1 : (chk t id != 0) = false) (k2 : ((!ok m) || ((m.to : Int) != id)) = false) (k3 : ((m.kind : Int) == 1 || (m.kind : Int) == 3) = false) (k4 : (!answ m t.placed) = false) (k5 : hasNo m.no t.done = true) : takeR t m id = (t, [], false, 0) := by
  rw [takeR, if_neg (notk (k1 := k1)), if_neg (notk2 k2), if_neg (notb (k3 := k3)), if_neg (by simpa using k4), if_pos k5]
theorem take_6 (k1 : (chk t id != 0) = false) (k2 : ((!ok m) || ((m.to : Int) != id)) = false) (k3 : ((m.kind : Int) == 1 || (m.kind : Int) == 3) = false) (k4 : (!answ m t.placed) = false) (k5 : hasNo m.no t.done = false) :
    takeR t m id = ({ t with done := t.done ++ [m] }, [], true, 0) := by
  rw [takeR, if_neg (notk (k1 := k1)), if_neg (notk2 k2), if_neg (notb (k3 := k3)), if_neg (by simpa using k4), if_neg (by simp [k5])]
theorem dec_hasNo {b : Bool} (k : decide ((0 : Int) ≤ fnd (fun d => d.no == m.no) t.done) = b) : hasNo m.no t.done = b := by
  rw [← k, Bool.eq_iff_iff, decide_eq_true_eq, fnd_hasNo]
/-! ### Take, the reference's way -/
theorem fit_ok (k1 : (chk t id != 0) = false) : (∀ x ∈ t.placed, ok x = true ∧ begins x = true) ∧ ∀ x ∈ t.received, ok x = true := by
  have h := chk_iff.1 (chk_eq k1)
  refine ⟨fun x hx => ⟨(h.fine 0 (by omega)).2 x hx, ?_⟩, (h.fine 1 (by omega)).2⟩
  obtain ⟨j, hj⟩ := List.mem_iff_getElem?.1 hx
  exact (h.pl j x hj).1
theorem okm (k2 : ((!ok m) || ((m.to : Int) != id)) = false) : ok m = true := by
  have := notk2 k2; simp at this; exact this.1
theorem found {i : Nat} (hx : t.received[i]? = some x) (hk : (x.frm == m.frm && x.no == m.no) = true) (hs : ∀ y ∈ t.received.take i, (y.frm == m.frm && y.no == m.no) = false) : fnd (fun r => r.frm == m.frm && r.no == m.no) t.received = (i : Int) :=
  (fnd_at (p := fun r => r.frm == m.frm && r.no == m.no) hx hk hs).symm
theorem rtake_3 {i : Nat} (k1 : (chk t id != 0) = false) (k2 : ((!ok m) || ((m.to : Int) != id)) = false) (k3 : begins m = true) (hx : t.received[i]? = some x) (hk : (x.frm == m.frm && x.no == m.no) = true) (hs : ∀ y ∈ t.received.take i, (y.frm == m.frm && y.no == m.no) = false) (k4 : (!same x m) = true) :
    takeR t m id = (Trade.zero, [], false, 480) := by
  have e := found hx hk hs
  rw [same_nums (ok_iff.1 ((fit_ok k1).2 x (mem_of hx))) (ok_iff.1 (okm k2))] at k4
  rw [take_3 k1 k2 k3, recv_1 (x := x) (by rw [e]; simp) (by rw [e]; simpa using hx) k4]
theorem rtake_4 {i : Nat} (k1 : (chk t id != 0) = false) (k2 : ((!ok m) || ((m.to : Int) != id)) = false) (k3 : begins m = true) (hx : t.received[i]? = some x) (hk : (x.frm == m.frm && x.no == m.no) = true) (hs : ∀ y ∈ t.received.take i, (y.frm == m.frm && y.no == m.no) = false) (k4 : (!same x m) = false) :
    takeR t m id = (t, [ansR m], false, 0) := by
  have e := found hx hk hs
  rw [same_nums (ok_iff.1 ((fit_ok k1).2 x (mem_of hx))) (ok_iff.1 (okm k2))] at k4
  rw [take_3 k1 k2 k3, recv_2 (x := x) (by rw [e]; simp) (by rw [e]; simpa using hx) k4, ans_eq k3]
theorem notfound {i n : Nat} (hn : n = t.received.length) (hi : i = n) (hs : ∀ y ∈ t.received.take i, (y.frm == m.frm && y.no == m.no) = false) : decide ((0 : Int) ≤ fnd (fun r => r.frm == m.frm && r.no == m.no) t.received) = false := by
  rw [← fnd_none (p := fun r => r.frm == m.frm && r.no == m.no) hn hi hs]; rfl
theorem rtake_5 {i n : Nat} (hn : n = t.received.length) (k1 : (chk t id != 0) = false) (k2 : ((!ok m) || ((m.to : Int) != id)) = false) (k3 : begins m = true) (hi : i = n) (hs : ∀ y ∈ t.received.take i, (y.frm == m.frm && y.no == m.no) = false) (k4 : (((n : Nat) : Int) == (4096 : Int)) = true) :
    takeR t m id = (Trade.zero, [], false, 2) := by
  rw [take_3 k1 k2 k3, recv_3 hn (notfound hn hi hs) (by simp at k4 ⊢; omega)]
theorem rtake_6 {i n : Nat} (hn : n = t.received.length) (k1 : (chk t id != 0) = false) (k2 : ((!ok m) || ((m.to : Int) != id)) = false) (k3 : begins m = true) (hi : i = n) (hs : ∀ y ∈ t.received.take i, (y.frm == m.frm && y.no == m.no) = false) (k4 : (((n : Nat) : Int) == (4096 : Int)) = false) :
    takeR t m id = ({ t with received := t.received ++ [m] }, [ansR m], true, 0) := by
  have := ((chk_iff.1 (chk_eq k1)).fine 1 (by omega)).1
  simp only [l3] at this
  rw [take_3 k1 k2 k3, recv_4 hn (notfound hn hi hs) (by simp at k4 ⊢; omega), ans_eq k3]
theorem ranswI {n : Nat} {b : Bool} (hn : n = t.placed.length) (k1 : (chk t id != 0) = false) (k2 : ((!ok m) || ((m.to : Int) != id)) = false) (hb : m.no < (t.placed.length : Int)) (hx : t.placed[m.no.toNat]? = some x) (k : (decide (((n : Nat) : Int) ≤ (m.no : Int)) || (!same m (ansR x))) = b) : (!answ m t.placed) = b := by
  rw [answ_ref (okm k2) (fun x hx => ((fit_ok k1).1 x hx).1) (fun x hx => ((fit_ok k1).1 x hx).2), nth_of hx, ← k]
  have e : decide (((n : Nat) : Int) ≤ (m.no : Int)) = false := by simp; omega
  rw [e]; simp [hb]
theorem ranswO (k1 : (chk t id != 0) = false) (k2 : ((!ok m) || ((m.to : Int) != id)) = false) (hb : ¬ m.no < (t.placed.length : Int)) : (!answ m t.placed) = true := by
  rw [answ_ref (okm k2) (fun x hx => ((fit_ok k1).1 x hx).1) (fun x hx => ((fit_ok k1).1 x hx).2)]
  simp [hb]
theorem no_pos (k2 : ((!ok m) || ((m.to : Int) != id)) = false) : 0 ≤ m.no := (ok_iff.1 (okm k2)).2.2.2.2.1.1
theorem deadR {n : Nat} (hn : n = t.placed.length) (hb : ¬ m.no < (t.placed.length : Int)) : (decide (((n : Nat) : Int) ≤ (m.no : Int)) == false) = false := by
  simp; omega
theorem deadK {n : Nat} (hn : n = t.placed.length) (hb : ¬ m.no < (t.placed.length : Int)) (k : (decide (((n : Nat) : Int) ≤ (m.no : Int)) || false) = false) : False := by
  simp at k; omega
end
theorem X.makeFunc1 {N : Nat} {ρ : Ro} {dst : Option Tmp} {ty : TypeId} {pos : String} {aft : Array Edge} {g : Option (Nat × Bool)} {w : World} {f : FuncId} {x : Operand} {b : Value} (h : (mk N ρ).eval x = b) :
    (execOp (mk N ρ).eval ⟨dst, .makeFunc (.func f) #[] #[x], ty, pos, aft, g⟩).run Try.prog w = .ok (.value (.func (.func f) #[] #[b])) w := X.makeFunc (by simp) (args1 h)
end Go.Proofs.Ytigimkmkbdnlpaa

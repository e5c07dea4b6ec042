/- The laws TradeAgain and TradeOther, of what Place and Take compute. -/
import Derived.Test.YtigimkmkbdnlpaaLive
namespace Go.Proofs.Ytigimkmkbdnlpaa
open Go.RowKit

/-! ### What a Take that is well says -/
section
variable {t : Trade} {m o : Msg} {id : Int}
theorem fit_received {t : Trade} {m : Msg} {id : Int} (h : Fit t id) (hm : ok m = true) (hb : begins m = true) (hid : m.to = id) (hn : key m ∉ t.received.map key) (hl : t.received.length < 4096) : Fit { t with received := t.received ++ [m] } id := by
  refine ⟨h.firm, h.next, ?_, h.pl, ?_, ?_, h.dn, h.dd⟩
  · intro j hj
    match j, hj with
    | 0, _ => exact h.fine 0 (by omega)
    | 1, _ =>
      have := h.fine 1 (by omega)
      refine ⟨by simp only [l3, List.length_append, List.length_cons, List.length_nil]; omega, ?_⟩
      intro x hx
      simp only [l3, List.mem_append, List.mem_cons, List.not_mem_nil, or_false] at hx
      rcases hx with hx | rfl
      · exact this.2 x hx
      · exact hm
    | 2, _ => exact h.fine 2 (by omega)
  · intro x hx
    simp only [List.mem_append, List.mem_cons, List.not_mem_nil, or_false] at hx
    rcases hx with hx | rfl
    · exact h.rc x hx
    · exact ⟨hb, hid⟩
  · simp only [List.map_append, List.map_cons, List.map_nil, List.nodup_append]
    refine ⟨h.rn, by simp, ?_⟩
    intro a ha b hb' hab
    simp only [List.mem_cons, List.not_mem_nil, or_false] at hb'
    exact hn (by rw [← hb', ← hab]; exact ha)
theorem fit_done {t : Trade} {m : Msg} {id : Int} (h : Fit t id) (hm : ok m = true) (ha : answ m t.placed = true) (hn : m.no ∉ t.done.map Msg.no) (hl : t.done.length < 4096) : Fit { t with done := t.done ++ [m] } id := by
  refine ⟨h.firm, h.next, ?_, h.pl, h.rc, h.rn, ?_, ?_⟩
  · intro j hj
    match j, hj with
    | 0, _ => exact h.fine 0 (by omega)
    | 1, _ => exact h.fine 1 (by omega)
    | 2, _ =>
      have := h.fine 2 (by omega)
      refine ⟨by simp only [l3, List.length_append, List.length_cons, List.length_nil]; omega, ?_⟩
      intro x hx
      simp only [l3, List.mem_append, List.mem_cons, List.not_mem_nil, or_false] at hx
      rcases hx with hx | rfl
      · exact this.2 x hx
      · exact hm
  · intro x hx
    simp only [List.mem_append, List.mem_cons, List.not_mem_nil, or_false] at hx
    rcases hx with hx | rfl
    · exact h.dn x hx
    · exact ha
  · simp only [List.map_append, List.map_cons, List.map_nil, List.nodup_append]
    refine ⟨h.dd, by simp, ?_⟩
    intro a ha' b hb' hab
    simp only [List.mem_cons, List.not_mem_nil, or_false] at hb'
    exact hn (by rw [← hb', ← hab]; exact ha')
theorem fit_placed {t : Trade} {m : Msg} {id : Int} (h : Fit t id) (hm : ok m = true) (hb : begins m = true) (hf : m.frm = id) (hn : m.no = t.next) (hl : t.next < 4096) : Fit { t with next := t.next + 1, placed := t.placed ++ [m] } id := by
  have hnx := h.next
  refine ⟨h.firm, ?_, ?_, ?_, h.rc, h.rn, ?_, h.dd⟩
  · simp only [List.length_append, List.length_cons, List.length_nil]; omega
  · intro j hj
    match j, hj with
    | 0, _ =>
      have := h.fine 0 (by omega)
      refine ⟨by simp only [l3, List.length_append, List.length_cons, List.length_nil]; omega, ?_⟩
      intro x hx
      simp only [l3, List.mem_append, List.mem_cons, List.not_mem_nil, or_false] at hx
      rcases hx with hx | rfl
      · exact this.2 x hx
      · exact hm
    | 1, _ => exact h.fine 1 (by omega)
    | 2, _ => exact h.fine 2 (by omega)
  · intro i x hx
    rcases Nat.lt_or_ge i t.placed.length with hi | hi
    · rw [List.getElem?_append_left hi] at hx
      exact h.pl i x hx
    · rw [List.getElem?_append_right hi] at hx
      cases hd : i - t.placed.length with
      | zero =>
        rw [hd] at hx
        cases hx
        exact ⟨hb, hf, by omega⟩
      | succ k => rw [hd] at hx; simp at hx
  · intro x hx
    have ha := h.dn x hx
    simp only [answ, Bool.and_eq_true, decide_eq_true_eq] at ha ⊢
    obtain ⟨⟨h1, h2⟩, h3⟩ := ha
    have hlt : x.no.toNat < t.placed.length := by omega
    have e : nth (t.placed ++ [m]) x.no.toNat = nth t.placed x.no.toNat := by simp [nth, List.getElem?_append_left hlt]
    rw [e]
    exact ⟨⟨by simp only [List.length_append, List.length_cons, List.length_nil]; omega, h2⟩, h3⟩
/-- The four ways in which a Take is well. -/
inductive Well (t : Trade) (m : Msg) (id : Int) : TakeT → Prop
  | seen (r : Msg) : begins m = true → 0 ≤ fnd (keyP m) t.received → t.received[(fnd (keyP m) t.received).toNat]? = some r → nums r m = true → Well t m id (t, [ansW m], false, 0)
  | fresh : begins m = true → (∀ x ∈ t.received, keyP m x = false) → t.received.length < 4096 → Well t m id ({ t with received := t.received ++ [m] }, [ansW m], true, 0)
  | known : begins m = false → answ m t.placed = true → hasNo m.no t.done = true → Well t m id (t, [], false, 0)
  | done : begins m = false → answ m t.placed = true → hasNo m.no t.done = false → Well t m id ({ t with done := t.done ++ [m] }, [], true, 0)
theorem take_err (h : (takeR t m id).2.2.2 ≠ 0) : takeR t m id = (Trade.zero, [], false, 480) ∨ takeR t m id = (Trade.zero, [], false, 2) := by
  revert h
  simp only [takeR, recvR]
  repeat' split
  all_goals simp
theorem take_ok (h : (takeR t m id).2.2.2 = 0) : Fit t id ∧ ok m = true ∧ m.to = id ∧ Well t m id (takeR t m id) := by
  rcases chk_two t id with hc | hc
  · have hfit := chk_iff.1 hc
    by_cases h2 : ok m = true ∧ m.to = id
    · refine ⟨hfit, h2.1, h2.2, ?_⟩
      have e1 : ¬ chk t id = 480 := by rw [hc]; decide
      by_cases hb : begins m = true
      · rw [takeR, if_neg e1, if_neg (by simpa using h2), if_pos hb] at h ⊢
        by_cases hf : 0 ≤ fnd (keyP m) t.received
        · obtain ⟨r, hr, hk, _⟩ := fnd_pos hf
          rw [recvR, if_pos hf, nth_of hr] at h ⊢
          by_cases hn : nums r m = true
          · rw [if_pos hn]; exact .seen r hb hf hr hn
          · rw [if_neg hn] at h; cases h
        · rw [recvR, if_neg hf] at h ⊢
          by_cases hl : 4096 ≤ t.received.length
          · rw [if_pos hl] at h; cases h
          · rw [if_neg hl]; exact .fresh hb (fnd_neg (by omega)) (by omega)
      · rw [takeR, if_neg e1, if_neg (by simpa using h2), if_neg hb] at h ⊢
        have hb' : begins m = false := by simpa using hb
        by_cases ha : answ m t.placed = false
        · rw [if_pos ha] at h; cases h
        · rw [if_neg ha] at h ⊢
          have ha' : answ m t.placed = true := by simpa using ha
          by_cases hd : hasNo m.no t.done = true
          · rw [if_pos hd]; exact .known hb' ha' hd
          · rw [if_neg hd]; exact .done hb' ha' (by simpa using hd)
    · rw [takeR, if_neg (by rw [hc]; decide), if_pos h2] at h; cases h
  · rw [takeR, if_pos hc] at h; cases h
theorem take_intro {p : TakeT} (hf : Fit t id) (hm : ok m = true) (hid : m.to = id) (h : Well t m id p) : takeR t m id = p := by
  have e1 : ¬ chk t id = 480 := by rw [chk_iff.2 hf]; decide
  have e2 : ¬ ¬ (ok m = true ∧ m.to = id) := by simp [hm, hid]
  cases h with
  | seen r hb hf2 hr hn => rw [takeR, if_neg e1, if_neg e2, if_pos hb, recvR, if_pos hf2, nth_of hr, if_pos hn]
  | fresh hb hno hl =>
    rw [takeR, if_neg e1, if_neg e2, if_pos hb, recvR, if_neg, if_neg (by omega)]
    intro h0
    obtain ⟨r, hr, hk, _⟩ := fnd_pos h0
    have h1 := hno r (mem_of hr)
    simp only [keyP] at h1
    rw [h1] at hk
    cases hk
  | known hb ha hd => rw [takeR, if_neg e1, if_neg e2, if_neg (by simp [hb]), if_neg (by simp [ha]), if_pos hd]
  | done hb ha hd => rw [takeR, if_neg e1, if_neg e2, if_neg (by simp [hb]), if_neg (by simp [ha]), if_neg (by simp [hd])]
theorem key_not_mem {l : List Msg} (h : ∀ x ∈ l, keyP m x = false) : key m ∉ l.map key := by
  intro hc
  obtain ⟨x, hx, hk⟩ := List.mem_map.1 hc
  have := h x hx
  simp [key] at hk
  simp [keyP, hk.1, hk.2] at this
theorem nums_refl (m : Msg) : nums m m = true := by simp [nums]
theorem fnd_append {p : Msg → Bool} {l : List Msg} {m : Msg} (h : ∀ x ∈ l, p x = false) (hm : p m = true) : fnd p (l ++ [m]) = (l.length : Int) :=
  (fnd_at (i := l.length) (by simp) hm (by simpa using h)).symm
/-- The second time. -/
theorem again_take (hl : t.done.length < 4096) (h : (takeR t m id).2.2.2 = 0) : takeR (takeR t m id).1 m id = ((takeR t m id).1, (takeR t m id).2.1, false, 0) ∧ Fit (takeR t m id).1 id := by
  obtain ⟨hf, hm, hid, hw⟩ := take_ok h
  generalize takeR t m id = p at hw
  cases hw with
  | seen r hb h0 hr hn => exact ⟨take_intro hf hm hid (.seen r hb h0 hr hn), hf⟩
  | fresh hb hno hl1 =>
    have hf2 := fit_received hf hm hb hid (key_not_mem hno) hl1
    have e := fnd_append hno (show keyP m m = true by simp [keyP])
    exact ⟨take_intro hf2 hm hid (.seen m hb (by show 0 ≤ fnd (keyP m) (t.received ++ [m]); rw [e]; omega) (by show (t.received ++ [m])[(fnd (keyP m) (t.received ++ [m])).toNat]? = some m; rw [e]; simp) (nums_refl m)), hf2⟩
  | known hb ha hd => exact ⟨take_intro hf hm hid (.known hb ha hd), hf⟩
  | done hb ha hd =>
    have hn : m.no ∉ t.done.map Msg.no := by rw [← hasNo_map, hd]; decide
    have hf2 := fit_done hf hm ha hn hl
    exact ⟨take_intro hf2 hm hid (.known hb ha (by rw [hasNo_map]; simp)), hf2⟩
/-- What it says of the list, the flag and the lengths. -/
theorem again_out (h : (takeR t m id).2.2.2 = 0) : ∀ a ∈ (takeR t m id).2.1, a.frm = id ∧ a.to = m.frm ∧ a.no = m.no := by
  obtain ⟨hf, hm, hid, hw⟩ := take_ok h
  generalize takeR t m id = p at hw
  cases hw <;> simp [ansW, hid]
theorem again_len (h : (takeR t m id).2.2.2 = 0) : (takeR t m id).1.received.length + (takeR t m id).1.done.length = t.received.length + t.done.length + (if (takeR t m id).2.2.1 = true then 1 else 0) := by
  obtain ⟨hf, hm, hid, hw⟩ := take_ok h
  generalize takeR t m id = p at hw
  cases hw <;> simp <;> omega
theorem again_same (h : (takeR t m id).2.2.2 = 0) (hn : (takeR t m id).2.2.1 = false) : (takeR t m id).1 = t := by
  obtain ⟨hf, hm, hid, hw⟩ := take_ok h
  generalize takeR t m id = p at hw hn
  cases hw <;> simp at hn ⊢
theorem place_err (h : (placeR t m).2.2 ≠ 0) : (placeR t m).1 = Trade.zero := by
  revert h
  simp only [placeR]
  repeat' split
  all_goals simp
theorem place_ok (h : (placeR t m).2.2 = 0) : Fit t m.frm ∧ ok (placeR t m).2.1 = true ∧ begins (placeR t m).2.1 = true ∧ t.next < 4096 ∧ (placeR t m).2.1 = { m with no := t.next } ∧ (placeR t m).1 = { t with next := t.next + 1, placed := t.placed ++ [{ m with no := t.next }] } := by
  rcases chk_two t m.frm with hc | hc
  · have hfit := chk_iff.1 hc
    have h1 := (hfit.fine 0 (by omega)).1
    simp only [l3] at h1
    have h2 := hfit.next
    simp only [placeR] at h ⊢
    rw [if_neg (by rw [hc]; decide)] at h ⊢
    by_cases h3 : t.next = 4096
    · rw [if_pos h3] at h; cases h
    · rw [if_neg h3] at h ⊢
      by_cases h4 : ok { m with no := t.next } = true ∧ begins { m with no := t.next } = true
      · rw [if_pos h4]
        exact ⟨hfit, h4.1, h4.2, by omega, rfl, rfl⟩
      · rw [if_neg h4] at h; cases h
  · simp only [placeR] at h
    rw [if_pos hc] at h; cases h
/-- Behind a Place that is well. -/
theorem place_fit (h : (placeR t m).2.2 = 0) : Fit (placeR t m).1 m.frm := by
  obtain ⟨hf, ho, hb, hn, e1, e2⟩ := place_ok h
  rw [e2]
  rw [e1] at ho hb
  exact fit_placed hf ho hb rfl rfl hn
theorem place_wait (h : (placeR t m).2.2 = 0) : (waitL (placeR t m).1 m.frm).length = (waitL t m.frm).length + 1 := by
  obtain ⟨hf, ho, hb, hn, e1, e2⟩ := place_ok h
  rw [e2]
  have hnot : hasNo t.next t.done = false := by
    rw [hasNo, List.any_eq_false]
    intro x hx
    have ha := hf.dn x hx
    simp only [answ, Bool.and_eq_true, decide_eq_true_eq] at ha
    have := hf.next
    simp; omega
  have e : ∀ x, waits { t with next := t.next + 1, placed := t.placed ++ [{ m with no := t.next }] } m.frm x = waits t m.frm x := fun _ => rfl
  simp only [waitL, List.filter_append, List.length_append]
  have e3 : waits { t with next := t.next + 1, placed := t.placed ++ [{ m with no := t.next }] } m.frm = waits t m.frm := funext e
  rw [e3]
  simp [waits, hnot]
end
section
variable {t : Trade} {m o : Msg} {id : Int}
theorem few_of3 (k : (((!few t) || (!fewM m)) || (!fewM o)) = false) : t.placed.length ≤ 20 ∧ t.received.length ≤ 20 ∧ t.done.length ≤ 20 := by
  simp only [Bool.or_eq_false_iff] at k
  exact few_of (t := t) (m := m) (by simp [k])
theorem ne_no {a b : Int} (h : a = b) : (a != b) = false := by simp [h]
theorem place_len (h : (placeR t m).2.2 = 0) : (placeR t m).1.placed.length = t.placed.length + 1 := by
  rw [(place_ok h).2.2.2.2.2]; simp
theorem place_no (h : (placeR t m).2.2 = 0) : (placeR t m).2.1.no = t.next := by rw [(place_ok h).2.2.2.2.1]
theorem again_ns (h : (takeR t m id).2.2.2 = 0) : ((!(takeR t m id).2.2.1) && (!sameT (takeR t m id).1 t)) = false := by
  cases hf : (takeR t m id).2.2.1 with
  | true => rfl
  | false => rw [again_same h hf, sameT_refl]; rfl
theorem again_el {a : Msg} (h : (takeR t m id).2.2.2 = 0) (ha : a ∈ (takeR t m id).2.1) (k : ((((a.frm : Int) != (id : Int)) || ((a.to : Int) != (m.frm : Int))) || ((a.no : Int) != (m.no : Int))) = true) : False := by
  obtain ⟨h1, h2, h3⟩ := again_out h a ha
  simp [h1, h2, h3] at k
theorem again_bound (h : (takeR t m id).2.2.2 = 0) (hf : t.placed.length ≤ 20 ∧ t.received.length ≤ 20 ∧ t.done.length ≤ 20) : (takeR t m id).1.received.length + (takeR t m id).1.done.length ≤ 41 := by
  rw [again_len h]
  split <;> omega
theorem again_fin {a b c d : Nat} (ha : a = (takeR t m id).1.received.length) (hb : b = (takeR t m id).1.done.length) (hc : c = t.received.length) (hd : d = t.done.length) (h : (takeR t m id).2.2.2 = 0) :
    ((takeR t m id).2.2.1 == (((a : Int) + (b : Int)) == (((c : Int) + (d : Int)) + 1))) = true := by
  have := again_len h
  subst ha; subst hb; subst hc; subst hd
  cases hf : (takeR t m id).2.2.1 with
  | true => rw [hf, if_pos rfl] at this; simp; omega
  | false => rw [hf, if_neg (by decide)] at this; simp; omega
theorem err_same (h : (takeR t m id).2.2.2 ≠ 0) : sameT (takeR t m id).1 Trade.zero = true := by
  rcases take_err h with e | e <;> rw [e] <;> exact sameT_refl _
theorem err_len {n : Nat} (h : (takeR t m id).2.2.2 ≠ 0) (hn : n = (takeR t m id).2.1.length) : ((n : Int) == 0) = true := by
  subst hn
  rcases take_err h with e | e <;> rw [e] <;> rfl
theorem err_fresh (h : (takeR t m id).2.2.2 ≠ 0) : (!(takeR t m id).2.2.1) = true := by
  rcases take_err h with e | e <;> rw [e] <;> rfl
end
end Go.Proofs.Ytigimkmkbdnlpaa

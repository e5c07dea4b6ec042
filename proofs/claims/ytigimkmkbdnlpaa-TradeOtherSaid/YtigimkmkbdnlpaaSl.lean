/- Slices of messages and trades in memory; what is built, cut and appended. -/
import Derived.Test.YtigimkmkbdnlpaaHeap
namespace Go.Proofs.Ytigimkmkbdnlpaa
open Go.RowKit

/-- A slice value. -/
structure SV where
  a : Option Addr
  n : Nat
  c : Nat
abbrev SV.val (s : SV) : Value := .slice s.a s.n s.c
def SV.nil : SV := ⟨none, 0, 0⟩
/-- The slice s holds the messages ms; its cells lie in no block of bs. -/
structure Sl (bs : List Nat) (w : World) (s : SV) (ms : List Msg) : Prop where
  len : s.n = ms.length
  cap : s.n ≤ s.c
  nul : s.a = none → s.c = 0
  bnd : s.n ≤ 9223372036854775807
  mem : 0 < s.n → ∃ b o, s.a = some ⟨b, o, none⟩ ∧ b < w.heap.size ∧ b ∉ bs ∧ ∀ i m, ms[i]? = some m → row w ⟨b, o + i * 43, none⟩ 43 = some m.list
section
variable {bs : List Nat} {w w' : World} {s : SV} {ms : List Msg}
theorem Sl.chg {cs : List Nat} (h : Sl bs w s ms) (r : Chg cs w w') (hn : ∀ c ∈ cs, c ∈ bs ∨ w.heap.size ≤ c) : Sl bs w' s ms :=
  ⟨h.len, h.cap, h.nul, h.bnd, fun hp => by
    obtain ⟨b, o, ha, hb, hbs, hr⟩ := h.mem hp
    have hbc : b ∉ cs := fun hc => by
      rcases hn b hc with h1 | h1
      · exact hbs h1
      · omega
    exact ⟨b, o, ha, Nat.lt_of_lt_of_le hb r.size, hbs, fun i m hm => by rw [row_of_block 43 (r.block b hb hbc)]; exact hr i m hm⟩⟩
theorem Sl.gr (h : Sl bs w s ms) (r : Grow w w') : Sl bs w' s ms := h.chg r (by simp)
theorem Sl.ext {b : Nat} (h : Sl bs w s ms) (hb : w.heap.size ≤ b) : Sl (b :: bs) w s ms :=
  ⟨h.len, h.cap, h.nul, h.bnd, fun hp => by
    obtain ⟨b', o, ha, hb', hbs, hr⟩ := h.mem hp
    exact ⟨b', o, ha, hb', by simp only [List.mem_cons, not_or]; exact ⟨by omega, hbs⟩, hr⟩⟩
theorem Sl.sub {cs : List Nat} (h : Sl bs w s ms) (hs : ∀ c ∈ cs, c ∈ bs) : Sl cs w s ms :=
  ⟨h.len, h.cap, h.nul, h.bnd, fun hp => by
    obtain ⟨b', o, ha, hb', hbs, hr⟩ := h.mem hp
    exact ⟨b', o, ha, hb', fun hc => hbs (hs _ hc), hr⟩⟩
theorem Sl.tl {b : Nat} (h : Sl (b :: bs) w s ms) : Sl bs w s ms := h.sub (fun c hc => by simp [hc])
theorem Sl.none_ (bs : List Nat) (w : World) : Sl bs w SV.nil [] := ⟨rfl, Nat.le_refl _, fun _ => rfl, by decide, fun h => absurd h (by simp [SV.nil])⟩
theorem Sl.at_ (h : Sl bs w s ms) {i : Nat} {m : Msg} (hi : ms[i]? = some m) : ∃ b o, s.a = some ⟨b, o, none⟩ ∧ i < s.n ∧ row w ⟨b, o + i * 43, none⟩ 43 = some m.list := by
  have hlt : i < ms.length := by
    rcases Nat.lt_or_ge i ms.length with h1 | h1
    · exact h1
    · rw [List.getElem?_eq_none h1] at hi; cases hi
  obtain ⟨b, o, ha, _, _, hr⟩ := h.mem (by rw [h.len]; omega)
  exact ⟨b, o, ha, by rw [h.len]; exact hlt, hr i m hi⟩
end
theorem cell_of_rowM {w : World} {b o k : Nat} {m : Msg} {v : Value} (h : row w ⟨b, o, none⟩ 43 = some m.list) (hv : m.arr[k]? = some v) : w.cell? ⟨b, o + k, none⟩ = some v := by
  obtain ⟨_, h2⟩ := (row_iff _ _ _ _).1 h
  have := h2 k v (by simpa [Msg.arr] using hv)
  simpa [Addr.add_lit] using this

/-! ### A trade -/
structure Trade where
  next : Int
  placed : List Msg
  received : List Msg
  done : List Msg
def Trade.zero : Trade := ⟨0, [], [], []⟩
structure TV where
  next : Int
  p : SV
  r : SV
  d : SV
def TV.arr (T : TV) : Array Value := #[.int .i64 T.next, T.p.val, T.r.val, T.d.val]
abbrev TV.val (T : TV) : Value := .agg T.arr
def TV.zero : TV := ⟨0, SV.nil, SV.nil, SV.nil⟩
structure Tr (bs : List Nat) (w : World) (T : TV) (t : Trade) : Prop where
  next : T.next = t.next
  p : Sl bs w T.p t.placed
  r : Sl bs w T.r t.received
  d : Sl bs w T.d t.done
section
variable {bs : List Nat} {w w' : World} {T : TV} {t : Trade}
theorem Tr.chg {cs : List Nat} (h : Tr bs w T t) (r : Chg cs w w') (hn : ∀ c ∈ cs, c ∈ bs ∨ w.heap.size ≤ c) : Tr bs w' T t := ⟨h.next, h.p.chg r hn, h.r.chg r hn, h.d.chg r hn⟩
theorem Tr.gr (h : Tr bs w T t) (r : Grow w w') : Tr bs w' T t := h.chg r (by simp)
theorem Tr.ext {b : Nat} (h : Tr bs w T t) (hb : w.heap.size ≤ b) : Tr (b :: bs) w T t := ⟨h.next, h.p.ext hb, h.r.ext hb, h.d.ext hb⟩
theorem Tr.sub {cs : List Nat} (h : Tr bs w T t) (hs : ∀ c ∈ cs, c ∈ bs) : Tr cs w T t := ⟨h.next, h.p.sub hs, h.r.sub hs, h.d.sub hs⟩
theorem Tr.tl {b : Nat} (h : Tr (b :: bs) w T t) : Tr bs w T t := ⟨h.next, h.p.tl, h.r.tl, h.d.tl⟩
theorem Tr.zero_ (bs : List Nat) (w : World) : Tr bs w TV.zero Trade.zero := ⟨rfl, Sl.none_ _ _, Sl.none_ _ _, Sl.none_ _ _⟩
end
theorem TV.oneCell (T : TV) : ∀ u ∈ (T.val).cells.toList, u.oneCell' = true := by
  intro u hu
  simp only [Value.cells, TV.arr, List.mem_cons, List.not_mem_nil, or_false] at hu
  rcases hu with rfl | rfl | rfl | rfl <;> rfl
theorem Msg.oneCellA (m : Msg) : ∀ u ∈ (Value.agg m.arr).cells.toList, u.oneCell' = true := by
  intro u hu; exact m.oneCell u (by simpa [Value.cells, Msg.arr] using hu)

/-! ### Built rows -/
theorem foldl_wr (l : List Value) : ∀ (k off : Nat) (cs : Array Value), ((l.zipIdx k).foldl (fun cs (p : Value × Nat) => cs.setIfInBounds (off + p.2) p.1) cs) = wr cs (off + k) l := by
  induction l with
  | nil => intro k off cs; rfl
  | cons v l ih => intro k off cs; simp only [List.zipIdx_cons, List.foldl_cons, wr, ih]; rfl
theorem fill_one {size : Nat} {v : Value} (hv : v.cells.size = size) {cs : Array Value} (hc : cs.size = size) : Instr.fill (fun i => some (i * size, size)) cs [(0, v)] = some v.cells := by
  simp only [Instr.fill, Nat.zero_mul, Nat.zero_add, hv, hc]
  rw [if_neg (by simp)]
  congr 1
  have h := foldl_wr v.cells.toList 0 0 cs
  have h2 := wr_all v.cells.toList cs [] (by simp) (by simp [hv, hc])
  simp only [List.length_nil, List.nil_append, Array.toArray_toList, Nat.zero_add] at h h2
  refine Eq.trans ?_ (h.trans h2)
  rw [← Array.foldl_toList, Array.toList_zipIdx]

section
variable {N : Nat} {ρ : Ro} {dst : Option Tmp} {ty : TypeId} {pos : String} {aft : Array Edge} {g : Option (Nat × Bool)} {w : World}
theorem size_msg_zero : (Value.agg Msg.zero.arr).cells.size = 43 := by simp [Value.cells, Msg.size_arr]
theorem zero30 (w : World) : (zeroValue 30).run Try.prog w = .ok (.agg Msg.zero.arr) w := by kernel_rfl
theorem zero24 (w : World) : (zeroValue 24).run Try.prog w = .ok TV.zero.val w := by kernel_rfl
/-- '[]api.Message{m}' -/
theorem X.slice1 {x : Operand} {m : Msg} (hx : (mk N ρ).eval x = .agg m.arr) :
    (execOp (mk N ρ).eval ⟨dst, .buildSlice 22 1 #[(0, x)], ty, pos, aft, g⟩).run Try.prog w = .ok (.value (.slice (some ⟨w.heap.size, 0, none⟩) 1 1)) (w.alloc (.cells m.arr 30)) := by
  have hs := run_sizeT (t := 30) (n := 43) (by kernel_rfl) w
  have hf : Instr.fill (fun i => some (i * 43, 43)) ((Array.range (1 * 43)).map (Msg.zero.arr[· % Msg.zero.arr.size]!)) [(0, (Value.agg m.arr))] = some m.arr :=
    fill_one (v := .agg m.arr) (by simp [Value.cells, Msg.size_arr]) (by simp)
  simp only [execOp, Instr.buildSlice, Sem.run_bind, run_underlying Try.underlying22, hs, Result.andThen_ok]
  rw [if_neg (by omega), if_neg (by omega)]
  simp only [Sem.run_bind, Sem.run_pure, Result.andThen_ok, zero30, Value.cells, List.map_toArray, List.map_cons, List.map_nil, hx]
  rw [hf]
  rfl
theorem X.slice0 : (execOp (mk N ρ).eval ⟨dst, .buildSlice 22 0 #[], ty, pos, aft, g⟩).run Try.prog w = .ok (.value (.slice (some ⟨w.heap.size, 0, none⟩) 0 0)) (w.alloc (.cells #[] 30)) := by kernel_rfl
theorem X.slice3 {x y z : Operand} {a b c : SV} (hx : (mk N ρ).eval x = a.val) (hy : (mk N ρ).eval y = b.val) (hz : (mk N ρ).eval z = c.val) :
    (execOp (mk N ρ).eval ⟨dst, .buildSlice 80 3 #[(0, x), (1, y), (2, z)], ty, pos, aft, g⟩).run Try.prog w = .ok (.value (.slice (some ⟨w.heap.size, 0, none⟩) 3 3)) (w.alloc (.cells #[a.val, b.val, c.val] 22)) := by
  simp only [execOp, List.map_toArray, List.map_cons, List.map_nil, hx, hy, hz]
  kernel_rfl
theorem X.build30 {ps : Array (Nat × Operand)} {qs : Array (Nat × Value)} {m : Msg} (hp : ps.map (fun (i, x) => (i, (mk N ρ).eval x)) = qs) (hb : ∀ w, (Instr.build 30 qs).run Try.prog w = .ok (.agg m.arr) w) :
    (execOp (mk N ρ).eval ⟨dst, .build 30 ps, ty, pos, aft, g⟩).run Try.prog w = .ok (.value (.agg m.arr)) w := by
  subst hp
  simp only [execOp, Sem.run_bind, hb w, Result.andThen_ok, Sem.run_pure]
theorem X.build24 : (execOp (mk N ρ).eval ⟨dst, .build 24 #[], ty, pos, aft, g⟩).run Try.prog w = .ok (.value TV.zero.val) w := by kernel_rfl
theorem X.build28 : (execOp (mk N ρ).eval ⟨dst, .build 28 #[], ty, pos, aft, g⟩).run Try.prog w = .ok (.value (.agg (sealArr Msg.zero.sl))) w := by kernel_rfl
theorem X.eqlSeal {x y : Operand} {a b : Msg} {t' : TypeId} (hx : (mk N ρ).eval x = .agg (sealArr a.sl)) (hy : (mk N ρ).eval y = .agg (sealArr b.sl)) :
    (execOp (mk N ρ).eval ⟨dst, .binOp .eql 28 x y t', ty, pos, aft, g⟩).run Try.prog w = .ok (.value (.bool (a.sl == b.sl))) w := by
  have hg := run_eqGuard_agg (P := Try.prog) w .eql 28 x y (sealArr a.sl) (sealArr b.sl) (by kernel_rfl)
  simp only [execOp, hx, hy, Sem.run_bind, hg, Result.andThen_ok, run_eql_seal, Sem.run_pure]
end

/-! ### append -/
theorem info30 : (Try.prog.info? 30).map (fun i => (i.zero, i.size, i.bytes)) = some (some (.agg Msg.zero.arr), 43, 168) := by kernel_rfl
def flat (ms : List Msg) : List Value := ms.flatMap Msg.list
theorem length_flat (ms : List Msg) : (flat ms).length = ms.length * 43 := by
  induction ms with
  | nil => rfl
  | cons m ms ih => simp only [flat, List.flatMap_cons, List.length_append, List.length_cons] at *; rw [ih, m.length_list]; omega
theorem getElem?_flat (ms : List Msg) : ∀ (i k : Nat) (m : Msg), ms[i]? = some m → k < 43 → (flat ms)[i * 43 + k]? = m.list[k]? := by
  induction ms with
  | nil => intro i k m h; simp at h
  | cons a ms ih =>
    intro i k m h hk
    have e : flat (a :: ms) = a.list ++ flat ms := rfl
    rw [e]
    cases i with
    | zero =>
      simp at h; subst h
      rw [List.getElem?_append_left (by rw [a.length_list]; omega)]
      simp
    | succ i =>
      rw [List.getElem?_append_right (by rw [a.length_list]; omega), a.length_list]
      rw [show (i + 1) * 43 + k - 43 = i * 43 + k from by omega]
      exact ih i k m (by simpa using h) hk
/-- What a slice's cells are, as one list. -/
theorem Sl.cells {bs : List Nat} {w : World} {s : SV} {ms : List Msg} (h : Sl bs w s ms) {A : Addr} (ha : s.a = some A) : ∀ j u, (flat ms)[j]? = some u → w.cell? (A.add j) = some u := by
  intro j u hj
  have hlt : j < ms.length * 43 := by
    rw [← length_flat]
    rcases Nat.lt_or_ge j (flat ms).length with h1 | h1
    · exact h1
    · rw [List.getElem?_eq_none h1] at hj; cases hj
  have hi : j / 43 < ms.length := by omega
  obtain ⟨b, o, ha', _, hr⟩ := h.at_ (List.getElem?_eq_getElem hi)
  rw [ha] at ha'
  injection ha' with ha'
  subst ha'
  have hk : j % 43 < 43 := Nat.mod_lt _ (by omega)
  have e := getElem?_flat ms (j / 43) (j % 43) _ (List.getElem?_eq_getElem hi) hk
  rw [show j / 43 * 43 + j % 43 = j from by omega, hj] at e
  have := cell_of_rowM hr (k := j % 43) (v := u) (by simpa [Msg.arr] using e.symm)
  rw [Addr.add_lit]
  rw [show o + j / 43 * 43 + j % 43 = o + j from by omega] at this
  exact this
theorem oneCell_flat (ms : List Msg) : ∀ u ∈ flat ms, u.oneCell' = true := by
  intro u hu
  simp only [flat, List.mem_flatMap] at hu
  obtain ⟨m, _, hm⟩ := hu
  exact m.oneCell u hm
/-- An owned row of messages is a slice of messages. -/
theorem Sl.of_own {bs : List Nat} {w w0 : World} {v : Value} {n : Nat} {ms : List Msg} (h : w.ownsRow w0.heap.size 30 43 v n (flat ms)) (hb : ∀ b ∈ bs, b < w0.heap.size) :
    ∃ s : SV, v = s.val ∧ Sl bs w s ms := by
  have hn : n = ms.length := by have := h.1; rw [length_flat] at this; omega
  rcases h.2 with ⟨hv, h0⟩ | ⟨g, cap, cur, hv, hg, hh, hnc, hm, hs, hx⟩
  · have : ms = [] := List.eq_nil_of_length_eq_zero (by omega)
    subst this
    exact ⟨SV.nil, hv, Sl.none_ _ _⟩
  · refine ⟨⟨some ⟨g, 0, none⟩, n, cap⟩, hv, hn, hnc, fun h => by simp at h, show n ≤ 9223372036854775807 from by simp only [maxLen] at hm; omega, fun hp => ⟨g, 0, rfl, ?_, ?_, ?_⟩⟩
    · rcases Nat.lt_or_ge g w.heap.size with h1 | h1
      · exact h1
      · rw [Array.getElem?_eq_none h1] at hh; cases hh
    · intro hc; have := hb g hc; omega
    · intro i m hi
      refine (row_iff _ _ _ _).2 ⟨m.length_list, fun j u hj => ?_⟩
      have hj43 : j < 43 := by
        rw [← m.length_list]
        rcases Nat.lt_or_ge j m.list.length with h1 | h1
        · exact h1
        · rw [List.getElem?_eq_none h1] at hj; cases hj
      have hilt : i < ms.length := by
        rcases Nat.lt_or_ge i ms.length with h1 | h1
        · exact h1
        · rw [List.getElem?_eq_none h1] at hi; cases hi
      have e := getElem?_flat ms i j m hi hj43
      rw [Addr.add_lit, Nat.zero_add, cell_of_row w g _ cur 30 (0, 0) hh, ← Array.getElem?_toList]
      rw [← hx, List.getElem?_take, if_pos (by omega)] at e
      rw [e, hj]
section
variable {N : Nat} {ρ : Ro} {dst : Option Tmp} {ty : TypeId} {pos : String} {aft : Array Edge} {g : Option (Nat × Bool)} {w : World}
theorem exec_append {x y : Operand} {u v : Value} (hx : (mk N ρ).eval x = u) (hy : (mk N ρ).eval y = v) {r : Value} {w' : World} (h : (Builtin.append_ #[22, 22] ty #[u, v]).run Try.prog w = .ok r w') :
    (execOp (mk N ρ).eval ⟨dst, .call { callee := .builtin .append, args := #[x, y], argTypes := #[22, 22] }, ty, pos, aft, g⟩).run Try.prog w = .ok (.value r) w' := by
  subst hx; subst hy
  simp only [execOp, resolve, invoke, builtin, Sem.run_bind, Sem.run_pure, Result.andThen_ok, List.map_toArray, List.map_cons, List.map_nil, h]
/-- append onto a slice that has no room to spare: a new array. -/
theorem X.appendFull {bs : List Nat} {x y : Operand} {s u : SV} {ms ns : List Msg} (hx : (mk N ρ).eval x = s.val) (hy : (mk N ρ).eval y = u.val) (hs : Sl bs w s ms) (hu : Sl bs w u ns)
    (hfull : s.c = s.n) (hne : ns ≠ []) (hlen : ms.length + ns.length ≤ 100000) (hb : ∀ b ∈ bs, b < w.heap.size) :
    ∃ (r : SV) (w' : World), (execOp (mk N ρ).eval ⟨dst, .call { callee := .builtin .append, args := #[x, y], argTypes := #[22, 22] }, ty, pos, aft, g⟩).run Try.prog w = .ok (.value r.val) w' ∧ Sl bs w' r (ms ++ ns) ∧ Grow w w' := by
  obtain ⟨i0, hi, hz0, hz1, hz2⟩ := info_parts info30
  have hnl : 0 < ns.length := List.length_pos_iff.2 hne
  obtain ⟨b, o, ha, _⟩ := hu.mem (by rw [hu.len]; exact hnl)
  have hln : (flat ns).length = u.n * 43 := by rw [length_flat, hu.len]
  have hlm : (flat ms).length = s.n * 43 := by rw [length_flat, hs.len]
  have hnews := hu.cells ha
  have e63 : s.n + u.n ≤ maxLen := by simp only [maxLen, hs.len, hu.len]; omega
  have eby : (s.n + u.n) * 168 ≤ 140737488355328 := by simp only [hs.len, hu.len]; omega
  have key : ∃ v' w', (Builtin.append_ #[22, 22] ty #[s.val, u.val]).run Try.prog w = .ok v' w' ∧ w'.ownsRow w.heap.size 30 43 v' (s.n + u.n) (flat ms ++ flat ns) ∧ w.grownBy w' none := by
    have eu : u.val = .slice (some ⟨b, o, none⟩) u.n u.c := by simp [SV.val, ha]
    rw [eu]
    cases hsa : s.a with
    | some A =>
      have es : s.val = .slice (some A) s.n s.c := by simp [SV.val, hsa]
      rw [es]
      exact run_append_arg_grows (P := Try.prog) w 22 ty 30 i0 _ 43 168 Try.underlying22 hi hz0 hz1 hz2 (by simp [Value.cells, Msg.size_arr]) (by omega) A s.n s.c (flat ms) hlm (hs.cells hsa) ⟨b, o, none⟩ u.n u.c (flat ns) hln hnews (by rw [hu.len]; omega) e63 eby
    | none =>
      have hc := hs.nul hsa
      have hn : s.n = 0 := by have := hs.cap; omega
      have hms : ms = [] := List.eq_nil_of_length_eq_zero (by rw [← hs.len]; exact hn)
      subst hms
      have es : s.val = .slice none 0 0 := by simp [SV.val, hsa, hn, hc]
      rw [es]
      obtain ⟨v', w', h1, h2, h3, _⟩ := run_append_own (P := Try.prog) w w.heap.size 22 ty 30 i0 _ 43 168 Try.underlying22 hi hz0 hz1 hz2 (by simp [Value.cells, Msg.size_arr]) (by omega) (.slice none 0 0) 0 [] (World.ownsRow_nil w _ 30 43) ⟨b, o, none⟩ u.n u.c (flat ns) hln hnews (oneCell_flat ns) (by omega) (by omega) (Nat.le_refl _)
      refine ⟨v', w', h1, by rw [hn]; exact h2, ?_⟩
      simpa [Value.ownBlock] using h3
  obtain ⟨v', w', hr, how, hgr⟩ := key
  rw [show flat ms ++ flat ns = flat (ms ++ ns) from by simp [flat]] at how
  obtain ⟨r, hv, hsl⟩ := Sl.of_own how hb
  subst hv
  exact ⟨r, w', exec_append hx hy hr, hsl, Grow.grown hgr (by simp)⟩
end

section
variable {N : Nat} {ρ : Ro} {dst : Option Tmp} {ty : TypeId} {pos : String} {aft : Array Edge} {g : Option (Nat × Bool)} {w : World}
/-- append onto a slice of the call's own. -/
theorem X.appendOwn {bs : List Nat} {base n : Nat} {x y : Operand} {v : Value} {u : SV} {ms ns : List Msg} (hx : (mk N ρ).eval x = v) (hy : (mk N ρ).eval y = u.val) (hs : w.ownsRow base 30 43 v n (flat ms)) (hu : Sl bs w u ns)
    (hne : ns ≠ []) (hlen : ms.length + ns.length ≤ 100000) (hbase : base ≤ w.heap.size) :
    ∃ (r : Value) (w' : World), (execOp (mk N ρ).eval ⟨dst, .call { callee := .builtin .append, args := #[x, y], argTypes := #[22, 22] }, ty, pos, aft, g⟩).run Try.prog w = .ok (.value r) w' ∧ w'.ownsRow base 30 43 r (n + u.n) (flat (ms ++ ns)) ∧ w.grownBy w' v.ownBlock := by
  obtain ⟨i0, hi, hz0, hz1, hz2⟩ := info_parts info30
  have hnl : 0 < ns.length := List.length_pos_iff.2 hne
  obtain ⟨b, o, ha, _⟩ := hu.mem (by rw [hu.len]; exact hnl)
  have hln : (flat ns).length = u.n * 43 := by rw [length_flat, hu.len]
  have hn : n = ms.length := by have := hs.1; rw [length_flat] at this; omega
  have eu : u.val = .slice (some ⟨b, o, none⟩) u.n u.c := by simp [SV.val, ha]
  have e63 : n + u.n ≤ maxLen := by simp only [maxLen, hu.len]; omega
  have eby : (n + u.n) * 168 ≤ 140737488355328 := by simp only [hu.len]; omega
  obtain ⟨v', w', h1, h2, h3, _⟩ := run_append_own (P := Try.prog) w base 22 ty 30 i0 _ 43 168 Try.underlying22 hi hz0 hz1 hz2 (by simp [Value.cells, Msg.size_arr]) (by omega) v n (flat ms) hs ⟨b, o, none⟩ u.n u.c (flat ns) hln (hu.cells ha) (oneCell_flat ns) e63 eby hbase
  rw [show flat ms ++ flat ns = flat (ms ++ ns) from by simp [flat]] at h2
  refine ⟨v', w', exec_append hx hy (by rw [eu]; exact h1), h2, h3⟩
/-- 'xs[:n:n]' -/
theorem X.clip {x hi mx : Operand} {A : Option Addr} {n c : Nat} (hx : (mk N ρ).eval x = .slice A n c) (hh : (mk N ρ).eval hi = .int .i64 n) (hm : (mk N ρ).eval mx = .int .i64 n) (hc : n ≤ c) :
    (execOp (mk N ρ).eval ⟨dst, .slice 22 x none (some hi) (some mx), ty, pos, aft, g⟩).run Try.prog w = .ok (.value (.slice A n n)) w := by
  have hs := run_sizeT (t := 30) (n := 43) (by kernel_rfl) w
  have hnc : ¬ ((c : Int) < (n : Int)) := by omega
  simp [execOp, hx, hh, hm, Instr.sliceAt, Instr.slice, Instr.sliceBounds, Instr.sliceBound, asIntOf, run_underlying Try.underlying22, hc, hs]
  cases A <;> simp
  intro _
  simp [Addr.add]
theorem X.store {t : TypeId} {x y : Operand} {a : Addr} {v : Value} {w' : World} (hx : (mk N ρ).eval x = .pointer (some a)) (hy : (mk N ρ).eval y = v) (h : (Instr.storeAt t (.pointer (some a)) v).run Try.prog w = .ok () w') :
    (execOp (mk N ρ).eval ⟨none, .store t x y, ty, pos, aft, g⟩).run Try.prog w = .ok .skip w' := by
  simp only [execOp, hx, hy, Sem.run_bind, h, Result.andThen_ok, Sem.run_pure]
end
end Go.Proofs.Ytigimkmkbdnlpaa

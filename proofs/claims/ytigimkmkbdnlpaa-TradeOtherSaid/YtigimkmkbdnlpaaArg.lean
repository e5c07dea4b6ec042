/- The arguments, opened: messages, lists of messages, trades. -/
import Derived.Test.YtigimkmkbdnlpaaSl
import Derived.ProofKit
import Derived.Deep.Slices
import Derived.OpenShut
namespace Go.Proofs.Ytigimkmkbdnlpaa
open Go.ChangeShapes Go.WideShapes Go.ChangeAt Go.RowKit Go.Deep

section
variable {H : Type} {enc : TypeId × Value → H} {w : World} {base : Nat} {spare : Nat → Bool} {held : Bool} {fuel : Nat} {cs : List Value} {x : DataW H × List MemPlace}
theorem drop_split (cs : List Value) (k n : Nat) : cs.drop k = (cs.drop k).take n ++ cs.drop (k + n) := by
  conv => lhs; rw [← List.take_append_drop n (cs.drop k)]
  rw [List.drop_drop]
theorem slice_of_trod {t e : TypeId} (ht : Try.prog.underlying t = some (.slice e)) (h : DataW.trod enc Try.prog w base spare held fuel t cs = some x) : ∃ a n c, cs = [.slice a n c] := by
  rcases open_slice ht h with ⟨h, _⟩ | ⟨a, len, cap, m, n, D, Pl, h, _⟩
  · exact ⟨_, _, _, h⟩
  · exact ⟨_, _, _, h⟩
theorem seal_of_trod (h : DataW.trod enc Try.prog w base spare held fuel 28 cs = some x) : ∃ l : List Int, l.length = 32 ∧ cs = l.map (.int .u8) := by
  obtain ⟨xs, m, _, _, hlen, hxl, hf⟩ := DataW.trod_array Try.underlying28 h
  have c28 : Try.prog.cellsOf 28 = 32 := by kernel_rfl
  have c5 : Try.prog.cellsOf 5 = 1 := by kernel_rfl
  rw [c28] at hlen
  have key : ∀ i, i < 32 → ∃ n, cs[i]? = some (.int .u8 n) := by
    intro i hi
    have h1 := hf i hi
    rw [List.getElem?_eq_getElem (by omega), c5] at h1
    obtain ⟨n, h2, _⟩ := DataW.trod_int Try.underlying5 h1
    refine ⟨n, ?_⟩
    have h3 := congrArg (·[0]?) h2
    simpa using h3
  refine ⟨cs.map fun v => match v with | .int _ n => n | _ => 0, by simp [hlen], ?_⟩
  refine List.ext_getElem? fun i => ?_
  by_cases hi : i < 32
  · obtain ⟨n, hn⟩ := key i hi
    simp [hn]
  · rw [List.getElem?_eq_none (by omega), List.getElem?_eq_none (by simp; omega)]
theorem msg_of_trod (h : DataW.trod enc Try.prog w base spare held fuel 30 cs = some x) : ∃ m : Msg, cs = m.list := by
  obtain ⟨xs, n, _, _, hlen, hxl, hf⟩ := DataW.trod_struct Try.underlying30 h
  have c30 : Try.prog.cellsOf 30 = 43 := by kernel_rfl
  have c3 : Try.prog.cellsOf 3 = 1 := by kernel_rfl
  have c25 : Try.prog.cellsOf 25 = 1 := by kernel_rfl
  have c26 : Try.prog.cellsOf 26 = 1 := by kernel_rfl
  have c28 : Try.prog.cellsOf 28 = 32 := by kernel_rfl
  rw [c30] at hlen
  replace hxl : xs.length = 12 := hxl
  have hx : ∀ i, i < 12 → ∃ y, xs[i]? = some y := fun i hi => ⟨_, List.getElem?_eq_getElem (by omega)⟩
  have int : ∀ i off, (∀ y, xs[i]? = some y → DataW.trod enc Try.prog w base spare held n 3 ((cs.drop off).take (Try.prog.cellsOf 3)) = some y) → i < 12 → ∃ k, (cs.drop off).take 1 = [.int .i64 k] := by
    intro i off h hi
    obtain ⟨y, hy⟩ := hx i hi
    have h1 := h y hy
    rw [c3] at h1
    obtain ⟨k, h2, _⟩ := DataW.trod_int Try.underlying3 h1
    exact ⟨k, h2⟩
  obtain ⟨k0, e0⟩ := int 0 0 (fun y hy => (hf 0 _ rfl).trans hy) (by omega)
  obtain ⟨k1, e1⟩ := int 1 1 (fun y hy => (hf 1 _ rfl).trans hy) (by omega)
  obtain ⟨k2, e2⟩ := int 2 2 (fun y hy => (hf 2 _ rfl).trans hy) (by omega)
  obtain ⟨k3, e3⟩ := int 3 3 (fun y hy => (hf 3 _ rfl).trans hy) (by omega)
  obtain ⟨k4, e4⟩ := int 4 4 (fun y hy => (hf 4 _ rfl).trans hy) (by omega)
  obtain ⟨k5, e5⟩ := int 5 5 (fun y hy => (hf 5 _ rfl).trans hy) (by omega)
  obtain ⟨k6, e6⟩ := int 6 6 (fun y hy => (hf 6 _ rfl).trans hy) (by omega)
  obtain ⟨k7, e7⟩ := int 7 7 (fun y hy => (hf 7 _ rfl).trans hy) (by omega)
  obtain ⟨y8, hy8⟩ := hx 8 (by omega)
  obtain ⟨y9, hy9⟩ := hx 9 (by omega)
  obtain ⟨y10, hy10⟩ := hx 10 (by omega)
  obtain ⟨y11, hy11⟩ := hx 11 (by omega)
  obtain ⟨la, ln, lc, e8⟩ := slice_of_trod Try.underlying25 (show DataW.trod enc Try.prog w base spare held n 25 ((cs.drop 8).take (Try.prog.cellsOf 25)) = some y8 from (hf 8 _ rfl).trans hy8)
  obtain ⟨va, vn, vc, e9⟩ := slice_of_trod Try.underlying25 (show DataW.trod enc Try.prog w base spare held n 25 ((cs.drop 9).take (Try.prog.cellsOf 25)) = some y9 from (hf 9 _ rfl).trans hy9)
  obtain ⟨ra, rn, rc, e10⟩ := slice_of_trod Try.underlying26 (show DataW.trod enc Try.prog w base spare held n 26 ((cs.drop 10).take (Try.prog.cellsOf 26)) = some y10 from (hf 10 _ rfl).trans hy10)
  obtain ⟨l, hl, e11⟩ := seal_of_trod (show DataW.trod enc Try.prog w base spare held n 28 ((cs.drop 11).take (Try.prog.cellsOf 28)) = some y11 from (hf 11 _ rfl).trans hy11)
  rw [c25] at e8 e9
  rw [c26] at e10
  rw [c28] at e11
  refine ⟨⟨k0, k1, k2, k3, k4, k5, k6, k7, la, ln, lc, va, vn, vc, ra, rn, rc, l, hl⟩, ?_⟩
  have e : cs = cs.drop 0 := rfl
  rw [e, drop_split cs 0 1, drop_split cs (0 + 1) 1, drop_split cs (0 + 1 + 1) 1, drop_split cs (0 + 1 + 1 + 1) 1, drop_split cs (0 + 1 + 1 + 1 + 1) 1, drop_split cs (0 + 1 + 1 + 1 + 1 + 1) 1, drop_split cs (0 + 1 + 1 + 1 + 1 + 1 + 1) 1,
    drop_split cs (0 + 1 + 1 + 1 + 1 + 1 + 1 + 1) 1, drop_split cs (0 + 1 + 1 + 1 + 1 + 1 + 1 + 1 + 1) 1, drop_split cs (0 + 1 + 1 + 1 + 1 + 1 + 1 + 1 + 1 + 1) 1, drop_split cs (0 + 1 + 1 + 1 + 1 + 1 + 1 + 1 + 1 + 1 + 1) 1, drop_split cs (0 + 1 + 1 + 1 + 1 + 1 + 1 + 1 + 1 + 1 + 1 + 1) 32]
  rw [e0]
  simp only [Nat.zero_add, Nat.reduceAdd]
  rw [e1, e2, e3, e4, e5, e6, e7, e8, e9, e10, e11, List.drop_eq_nil_of_le (by omega : cs.length ≤ 43)]
  simp [Msg.list]
theorem sl_of_trod (h : DataW.trod enc Try.prog w base spare held fuel 22 cs = some x) : ∃ (s : SV) (ms : List Msg), cs = [s.val] ∧ Sl [] w s ms := by
  have c30 : Try.prog.cellsOf 30 = 43 := by kernel_rfl
  rcases open_slice Try.underlying22 h with ⟨h, _⟩ | ⟨a, len, cap, m, n, D, Pl, h, hb, hle, hcap, hm, _, hi⟩
  · exact ⟨SV.nil, [], h, Sl.none_ _ _⟩
  · have hlm : len ≤ m := by rw [hm]; split <;> omega
    have hex : ∀ i, ∃ mm : Msg, i < len → w.cells? base (a.add (i * 43)) 43 = some mm.list := by
      intro i
      by_cases hil : i < len
      · obtain ⟨cs', h1, h2⟩ := hi i (by omega)
        obtain ⟨mm, rfl⟩ := msg_of_trod h2
        rw [c30] at h1
        exact ⟨mm, fun _ => h1⟩
      · exact ⟨Msg.zero, fun h => absurd h hil⟩
    obtain ⟨f, hf⟩ := Classical.axiomOfChoice hex
    refine ⟨⟨some a, len, cap⟩, (List.range len).map f, h, ⟨by simp, hle, fun h => by simp at h, ?_, fun hp => ?_⟩⟩
    · simp only [maxLen] at hcap; show len ≤ _; omega
    · have h0 := hf 0 hp
      obtain ⟨_, _, hat⟩ := World.cells?_some h0
      have hc0 := hat 0 (by omega)
      rw [Nat.zero_mul, show (a.add 0).add 0 = a from by simp [Addr.add]] at hc0
      have hc : ∃ v, w.cell? a = some v := ⟨_, hc0.trans (List.getElem?_eq_getElem (by simp [Msg.length_list]))⟩
      obtain ⟨v, hc⟩ := hc
      have hsp : a = ⟨a.block, a.off, none⟩ := by
        obtain ⟨b, o, sp⟩ := a
        simp only [World.cell?] at hc
        split at hc
        · split at hc
          · cases hc
          · cases sp with
            | none => rfl
            | some => simp at *
        · cases hc
      have hbl : a.block < w.heap.size := by
        rcases Nat.lt_or_ge a.block w.heap.size with h1 | h1
        · exact h1
        · simp [World.cell?, Array.getElem?_eq_none h1] at hc
      refine ⟨a.block, a.off, congrArg some hsp, hbl, by simp, fun i mm hmm => ?_⟩
      rw [List.getElem?_map] at hmm
      obtain ⟨j, hj, hjm⟩ := Option.map_eq_some_iff.1 hmm
      have hil : i < len := by
        rcases Nat.lt_or_ge i len with h1 | h1
        · exact h1
        · rw [List.getElem?_eq_none (by simpa using h1)] at hj; cases hj
      rw [List.getElem?_range hil] at hj
      cases hj
      subst hjm
      obtain ⟨_, h1, h2⟩ := World.cells?_some (hf i hil)
      refine (row_iff _ _ _ _).2 ⟨(f i).length_list, fun k u hk => ?_⟩
      have hk43 : k < 43 := by
        rcases Nat.lt_or_ge k 43 with h3 | h3
        · exact h3
        · rw [List.getElem?_eq_none (by rw [Msg.length_list]; exact h3)] at hk; cases hk
      have h4 := h2 k hk43
      rw [hk] at h4
      rw [hsp] at h4
      simpa [Addr.add_lit, Nat.add_assoc] using h4
end
section
variable {H : Type} {enc : TypeId × Value → H} {w : World} {base b0 : Nat} {spare : Nat → Bool} {held : Bool} {r : Reach} {v : Value} {d : DataW H} {p : List MemPlace}
set_option maxRecDepth 100000 in
theorem open_msg (hv : Value.okWide Try.prog w r b0 30 v) (h : DataW.Trod enc Try.prog w base spare held 30 v d p) : ∃ m : Msg, v = .agg m.arr := by
  obtain ⟨cs, rfl, _⟩ := okWide_struct Try.underlying30 hv
  obtain ⟨fuel, hf⟩ := h
  obtain ⟨m, hm⟩ := msg_of_trod hf
  refine ⟨m, ?_⟩
  have : cs.toList = m.list := hm
  rw [Msg.arr, ← this]
set_option maxRecDepth 100000 in
theorem open_trade (hv : Value.okWide Try.prog w r b0 24 v) (h : DataW.Trod enc Try.prog w base spare held 24 v d p) : ∃ (T : TV) (t : Trade), v = T.val ∧ Tr [] w T t := by
  obtain ⟨cs, rfl, _⟩ := okWide_struct Try.underlying24 hv
  obtain ⟨fuel, hf⟩ := h
  obtain ⟨xs, n, _, _, hlen, hxl, hg⟩ := DataW.trod_struct Try.underlying24 hf
  have c24 : Try.prog.cellsOf 24 = 4 := by kernel_rfl
  have c3 : Try.prog.cellsOf 3 = 1 := by kernel_rfl
  have c22 : Try.prog.cellsOf 22 = 1 := by kernel_rfl
  rw [c24] at hlen
  replace hxl : xs.length = 4 := hxl
  have hx : ∀ i, i < 4 → ∃ y, xs[i]? = some y := fun i hi => ⟨_, List.getElem?_eq_getElem (by omega)⟩
  obtain ⟨y0, h0⟩ := hx 0 (by omega)
  obtain ⟨y1, h1⟩ := hx 1 (by omega)
  obtain ⟨y2, h2⟩ := hx 2 (by omega)
  obtain ⟨y3, h3⟩ := hx 3 (by omega)
  obtain ⟨k, e0, _⟩ := DataW.trod_int Try.underlying3 (show DataW.trod enc Try.prog w base spare held n 3 (((Value.agg cs).cells.toList.drop 0).take (Try.prog.cellsOf 3)) = some y0 from (hg 0 _ rfl).trans h0)
  obtain ⟨s1, m1, e1, g1⟩ := sl_of_trod (show DataW.trod enc Try.prog w base spare held n 22 (((Value.agg cs).cells.toList.drop 1).take (Try.prog.cellsOf 22)) = some y1 from (hg 1 _ rfl).trans h1)
  obtain ⟨s2, m2, e2, g2⟩ := sl_of_trod (show DataW.trod enc Try.prog w base spare held n 22 (((Value.agg cs).cells.toList.drop 2).take (Try.prog.cellsOf 22)) = some y2 from (hg 2 _ rfl).trans h2)
  obtain ⟨s3, m3, e3, g3⟩ := sl_of_trod (show DataW.trod enc Try.prog w base spare held n 22 (((Value.agg cs).cells.toList.drop 3).take (Try.prog.cellsOf 22)) = some y3 from (hg 3 _ rfl).trans h3)
  rw [c3] at e0
  rw [c22] at e1 e2 e3
  refine ⟨⟨k, s1, s2, s3⟩, ⟨k, m1, m2, m3⟩, ?_, ⟨rfl, g1, g2, g3⟩⟩
  have e : cs.toList = cs.toList.drop 0 := rfl
  have hl : cs.toList.length = 4 := hlen
  have : cs.toList = [.int .i64 k, s1.val, s2.val, s3.val] := by
    simp only [Value.cells] at e0 e1 e2 e3
    rw [e, drop_split cs.toList 0 1, drop_split cs.toList (0 + 1) 1, drop_split cs.toList (0 + 1 + 1) 1, drop_split cs.toList (0 + 1 + 1 + 1) 1, e0]
    simp only [Nat.zero_add, Nat.reduceAdd]
    rw [e1, e2, e3, List.drop_eq_nil_of_le (by omega)]
    rfl
  refine congrArg Value.agg ?_
  rw [TV.arr, ← Array.toArray_toList (xs := cs), this]
end
end Go.Proofs.Ytigimkmkbdnlpaa

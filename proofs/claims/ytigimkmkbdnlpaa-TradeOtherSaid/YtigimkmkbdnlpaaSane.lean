/- The chapter's examples, reckoned. -/
import Derived.Test.YtigimkmkbdnlpaaLive
namespace Go.Proofs.Ytigimkmkbdnlpaa
open Go.RowKit

def shipM : Msg := { Msg.zero with kind := 3, frm := 3, to := 5, amount := 1, label := 8 }
def confM : Msg := { Msg.zero with kind := 2, frm := 4, to := 3, item := 2, amount := 5, day := 9 }
def M1 : Msg := { orderM 3 4 with no := 0 }
def N1 : Msg := { shipM with no := 1 }
def W1 : Msg := ansW M1
def A1 : Trade := ⟨1, [M1], [], []⟩
def A2 : Trade := ⟨2, [M1, N1], [], []⟩
def B1 : Trade := ⟨0, [], [M1], []⟩
def D1 : Trade := ⟨2, [M1, N1], [], [W1]⟩
theorem okM1 : ok M1 = true := by simp [ok, OkMsg, M1, orderM, Msg.zero]
theorem okN1 : ok N1 = true := by simp [ok, OkMsg, N1, shipM, Msg.zero]
theorem okW1 : ok W1 = true := by
  have : W1.kind = 2 := by decide
  simp [ok, OkMsg, this]
  simp [W1, ansW, M1, orderM, Msg.zero]
theorem fitZ {id : Int} (h : 0 ≤ id ∧ id ≤ 11) : Fit Trade.zero id :=
  ⟨h, rfl, fun j _ => by match j with | 0 | 1 | _ + 2 => exact ⟨by simp [l3, Trade.zero], by simp [l3, Trade.zero]⟩, by simp [Trade.zero], by simp [Trade.zero], by simp [Trade.zero], by simp [Trade.zero], by simp [Trade.zero]⟩
theorem fitA1 : Fit A1 3 :=
  ⟨by decide, rfl, fun j _ => by match j with | 0 | 1 | _ + 2 => exact ⟨by simp [l3, A1], by simp [l3, A1, okM1]⟩, by
    intro i m h
    match i with
    | 0 => cases h; decide
    | i + 1 => simp [A1] at h, by simp [A1], by simp [A1], by simp [A1], by simp [A1]⟩
theorem fitA2 : Fit A2 3 :=
  ⟨by decide, rfl, fun j _ => by match j with | 0 | 1 | _ + 2 => exact ⟨by simp [l3, A2], by simp [l3, A2, okM1, okN1]⟩, by
    intro i m h
    match i with
    | 0 => cases h; decide
    | 1 => cases h; decide
    | i + 2 => simp [A2] at h, by simp [A2], by simp [A2], by simp [A2], by simp [A2]⟩
theorem fitB1 : Fit B1 4 :=
  ⟨by decide, rfl, fun j _ => by match j with | 0 | 1 | _ + 2 => exact ⟨by simp [l3, B1], by simp [l3, B1, okM1]⟩, by simp [B1], by
    intro m hm
    simp [B1] at hm
    subst hm; decide, by simp [B1], by simp [B1], by simp [B1]⟩
theorem fitD1 : Fit D1 3 :=
  ⟨by decide, rfl, fun j _ => by match j with | 0 | 1 | _ + 2 => exact ⟨by simp [l3, D1], by simp [l3, D1, okM1, okN1, okW1]⟩, by
    intro i m h
    match i with
    | 0 => cases h; decide
    | 1 => cases h; decide
    | i + 2 => simp [D1] at h, by simp [D1], by simp [D1], by
    intro m hm
    simp [D1] at hm
    subst hm; decide, by simp [D1]⟩
theorem ck {t : Trade} {id : Int} (h : Fit t id) : (chk t id != 0) = false := by rw [chk_iff.2 h]; rfl
theorem s1 : placeR Trade.zero (orderM 3 4) = (A1, M1, 0) :=
  place_4 (T := TV.zero) rfl (ck (fitZ (by decide))) rfl (by rw [show ok { orderM 3 4 with no := TV.zero.next } = true from okM1]; decide)
theorem s2 : placeR Trade.zero Msg.zero = (Trade.zero, Msg.zero, 480) :=
  place_3 (T := TV.zero) rfl (ck (fitZ (by decide))) rfl (by
    have : ok { Msg.zero with no := TV.zero.next } = false := by simp [ok, OkMsg, Msg.zero]
    rw [this]; rfl)
theorem s3 : placeR A1 shipM = (A2, N1, 0) :=
  place_4 (T := ⟨1, SV.nil, SV.nil, SV.nil⟩) rfl (ck fitA1) rfl (by rw [show ok { shipM with no := (⟨1, SV.nil, SV.nil, SV.nil⟩ : TV).next } = true from okN1]; decide)
theorem s4 : takeR Trade.zero M1 4 = (B1, [W1], true, 0) :=
  (take_3 (ck (fitZ (by decide))) (by rw [okM1]; decide) (by decide)).trans (by rw [recv_4 (n := 0) rfl (by decide) (by decide)]; rfl)
theorem s5 : takeR B1 M1 4 = (B1, [W1], false, 0) :=
  (take_3 (ck fitB1) (by rw [okM1]; decide) (by decide)).trans (by rw [recv_2 (x := M1) (by decide) rfl (by decide)]; rfl)
def O1 : Msg := { M1 with amount := 6 }
theorem okO1 : ok O1 = true := by simp [ok, OkMsg, O1, M1, orderM, Msg.zero]
theorem s6 : takeR B1 O1 4 = (Trade.zero, [], false, 480) :=
  (take_3 (ck fitB1) (by rw [okO1]; decide) (by decide)).trans (by rw [recv_1 (x := M1) (by decide) rfl (by decide)])
theorem s6' : takeR B1 ({ M1 with amount := 6 } : Msg) 4 = (Trade.zero, [], false, 480) := s6
theorem s7 : takeR A2 W1 3 = (D1, [], true, 0) :=
  take_6 (ck fitA2) (by rw [okW1]; decide) (by decide) (by decide) (by decide)
theorem s8 : takeR Trade.zero W1 3 = (Trade.zero, [], false, 480) :=
  take_4 (ck (fitZ (by decide))) (by rw [okW1]; decide) (by decide) (by decide)
theorem s9 : waitL A2 3 = [M1, N1] := rfl
theorem s10 : waitL D1 3 = [N1] := rfl
theorem s11 : waitL Trade.zero 0 = [] := rfl
theorem s12 : same W1 confM = true := by decide
theorem c11 : chk Trade.zero 11 = 0 := chk_iff.2 (fitZ (by decide))
theorem c12 : chk Trade.zero 12 = 480 := (chk_no fun h => by have := h.firm; omega).symm
theorem cD3 : chk D1 3 = 0 := chk_iff.2 fitD1
theorem cD4 : chk D1 4 = 480 := (chk_no fun h => by
  have := (h.pl 0 M1 rfl).2.1
  revert this; decide).symm
end Go.Proofs.Ytigimkmkbdnlpaa

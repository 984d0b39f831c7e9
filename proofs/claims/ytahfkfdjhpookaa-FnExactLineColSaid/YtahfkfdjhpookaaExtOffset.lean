/- OffsetOf of the program: its contract in the printed texts' own form. -/
import Derived.Test.YtahfkfdjhpookaaTextOffset
namespace Go.Proofs.Ytahfkfdjhpookaa.Txt
open Go.RowKit Go.Proofs.YtahfkfdjhpookaaW.PrintWords Go.Proofs.YtahfkfdjhpookaaW.PrintLast

/-- all numbers are bytes, and they are not too many -/
def okText (l : List Int) : Bool := l.all (fun x => decide (0 ≤ x) && decide (x ≤ 255)) && decide (l.length < 281474976710657)
theorem okText_byt {l : List Int} (h : okText l = true) : Byt l ∧ l.length < 281474976710657 := by
  simp only [okText, Bool.and_eq_true, List.all_eq_true, decide_eq_true_eq] at h
  refine ⟨fun i => ?_, h.2⟩
  unfold rd
  by_cases hi : i.toNat < l.length
  · have := h.1 (l[i.toNat]) (List.getElem_mem hi)
    simp [List.getD_eq_getElem?_getD, hi]
    omega
  · simp [List.getD_eq_getElem?_getD, List.getElem?_eq_none (Nat.le_of_not_lt hi)]
theorem okText_of {l : List Int} (h : ∀ x ∈ l, (Lit.int .u8 x).wf = true) (hl : l.length < 281474976710657) : okText l = true := by
  simp only [okText, Bool.and_eq_true, List.all_eq_true, decide_eq_true_eq]
  refine ⟨fun x hx => ?_, hl⟩
  have := h x hx
  have e0 : IntKind.u8.min = 0 := by decide
  have e1 : IntKind.u8.max = 255 := by decide
  simp [Lit.wf, e0, e1] at this
  exact this

theorem Text.of {w : World} {A : Option Addr} {c : Nat} {l : List Int} (hr : Kd.C (Kd.int .u8) w A l.length l) (hc : l.length ≤ c) (h : okText l = true) : Text w A c l := ⟨hr, hc, (okText_byt h).1, (okText_byt h).2⟩
end Go.Proofs.Ytahfkfdjhpookaa.Txt

namespace Go.Proofs.Ytahfkfdjhpookaa.PAll
open Go.RowKit Go.Proofs.YtahfkfdjhpookaaW.PrintWords Go.Proofs.YtahfkfdjhpookaaW.PrintLast Go.Proofs.Ytahfkfdjhpookaa.Txt
def impl_OffsetOf.f (l0 : List Int) (a1 : Int) (a2 : Int) : Option (Int) := if okText l0 = true then some (offOf l0 a1 a2) else none
theorem impl_OffsetOf.calls (A0 : Option Addr) (c0 : Nat) (l0 : List Int) (a1 : Int) (a2 : Int) (r : Int) (w : World) (hr0 : Kd.C (Kd.int .u8) w A0 l0.length l0) (hc0 : l0.length ≤ c0) (h : impl_OffsetOf.f l0 a1 a2 = some r) :
    Calls Try.prog 21 #[.slice A0 l0.length c0, .int .i64 a1, .int .i64 a2] w fun e w' => e = .returned (.int .i64 r) ∧ Below w.heap.size w w' := by
  unfold impl_OffsetOf.f at h
  by_cases ht : okText l0 = true
  · rw [if_pos ht] at h
    obtain rfl := Option.some.inj h
    exact callsIn_wide.1 (offset_in 6 (Nat.le_refl _) w A0 c0 l0 a1 a2 (Text.of hr0 hc0 ht))
  · rw [if_neg ht] at h
    cases h
end Go.Proofs.Ytahfkfdjhpookaa.PAll

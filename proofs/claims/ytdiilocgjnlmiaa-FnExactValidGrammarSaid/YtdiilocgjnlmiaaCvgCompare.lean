import Derived.Lib.BytesEntry
import Derived.Lib.Bytealg
import Derived.Shelf.Abstract
import Derived.Test.YtdiilocgjnlmiaaCvgGBase
namespace Go.Proofs.Ytdiilocgjnlmiaa.Tre
open Go.RowKit Go.Proofs.YtdiilocgjnlmiaaW.PrintWords Go.Proofs.YtdiilocgjnlmiaaW.PrintLast Go.Proofs.YtdiilocgjnlmiaaW.PrintMore
open Go.Proofs.Ytdiilocgjnlmiaa.PAll
set_option linter.unusedVariables false
theorem run_bytesOf {P : Program} {w : World} {A : Option Addr} {l : List Int} (c : Nat) (hr : Kd.C (Kd.int .u8) w A l.length l) :
    (Extern.Bytes.bytesOf (.slice A l.length c)).run P w = .ok ⟨(Lib.bytesOf l).toArray⟩ w := by
  cases l with
  | nil =>
    cases A with
    | none => simp [Extern.Bytes.bytesOf, Lib.bytesOf, ByteArray.empty, ByteArray.emptyWithCapacity]; rfl
    | some a => simp [Extern.Bytes.bytesOf, Extern.Bytes.loadBytes, Lib.bytesOf, ByteArray.empty, ByteArray.emptyWithCapacity]; rfl
  | cons x l =>
    cases A with
    | none =>
      exfalso
      obtain ⟨ad, c, e, _⟩ := Kd.C_get hr (0 : Int) 0 (by omega) (by simp)
      cases e
    | some a =>
      have h := Lib.run_loadBytesX (P := P) w (x :: l) a .empty (fun j y hj => by
        have hjl : j < (x :: l).length := (List.getElem?_eq_some_iff.1 hj).1
        have := Kd.foot_int hr (j : Int) (by omega) (by omega)
        rw [Int.toNat_natCast] at this
        rw [this]
        simp only [rd, Int.toNat_natCast, List.getD_eq_getElem?_getD, hj, Option.getD_some])
      show (Extern.Bytes.loadBytes a (x :: l).length .empty).run P w = _
      rw [h]
      simp [ByteArray.empty, ByteArray.emptyWithCapacity]
      rfl
theorem compare_neg : ∀ a b : List UInt8, (decide (0 ≤ Lib.compareBytes a b)) = !Op.bytesLess a b
  | [], [] => rfl
  | [], _ :: _ => rfl
  | _ :: _, [] => rfl
  | x :: a, y :: b => by
    unfold Lib.compareBytes Op.bytesLess
    by_cases h1 : x < y
    · simp [h1]
    · rw [if_neg h1]
      by_cases h2 : y < x
      · rw [if_pos h2]
        have hne : ¬ x = y := fun e => by subst e; exact UInt8.lt_irrefl x h2
        simp [h1, hne]
      · rw [if_neg h2, compare_neg a b]
        have he : x = y := UInt8.le_antisymm (UInt8.not_lt.1 h2) (UInt8.not_lt.1 h1)
        subst he
        simp
set_option maxHeartbeats 1000000 in
set_option maxRecDepth 100000 in
theorem compare_calls (w : World) (A B : Option Addr) (l m : List Int) (c d : Nat) (h1 : Kd.C (Kd.int .u8) w A l.length l) (h2 : Kd.C (Kd.int .u8) w B m.length m) :
    Calls Try.prog 55 #[.slice A l.length c, .slice B m.length d] w fun e w' => e = .returned (.int .i64 (Lib.compareBytes (Lib.bytesOf l) (Lib.bytesOf m))) ∧ w' = w := by
  have hrun : (Extern.BytealgCompare.compare #[.slice A l.length c, .slice B m.length d]).run Try.prog w = .ok (.int .i64 (Lib.compareBytes (Lib.bytesOf l) (Lib.bytesOf m))) w := by
    change Sem.run Try.prog (do pure (goInt (Extern.BytealgCompare.cmp (← Extern.Bytes.bytesOf (.slice A l.length c)) (← Extern.Bytes.bytesOf (.slice B m.length d))))) w = _
    simp only [Sem.run_bind, Sem.run_pure, run_bytesOf c h1, run_bytesOf d h2, Result.andThen_ok]
    rw [Lib.cmp_eq]
    rfl
  generalize Lib.compareBytes (Lib.bytesOf l) (Lib.bytesOf m) = r at *
  go_enter Try.func55, Try.ntmps55
  go_wp2
  rw [run_callFunc_extern Try.func108 (by kernel_rfl) (by kernel_rfl) (by kernel_rfl) (e := Extern.BytealgCompare.compare) (by kernel_rfl), hrun]
  simp only [Result.andThen]
  rw [Oper.upon_value]
  go_wp2
  go_ret
  exact ⟨rfl, rfl⟩
end Go.Proofs.Ytdiilocgjnlmiaa.Tre

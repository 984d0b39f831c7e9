import Derived.Test.YtdiilocgjnlmiaaCvgGBase
namespace Go.Proofs.Ytdiilocgjnlmiaa.Tre
open Go.RowKit Go.Proofs.YtdiilocgjnlmiaaW.PrintWords Go.Proofs.YtdiilocgjnlmiaaW.PrintLast Go.Proofs.YtdiilocgjnlmiaaW.PrintMore
open Go.Proofs.Ytdiilocgjnlmiaa.PAll
set_option linter.unusedVariables false
set_option linter.unusedSimpArgs false
set_option maxRecDepth 100000 in
set_option maxHeartbeats 4000000 in
theorem pop_none (w : World) (B : Nat) (A : Option Addr) (c n : Nat) (hn : n = 0) (hb : Boxed w B 114 (.slice A n c)) :
    Calls Try.prog 135 #[.pointer (some ⟨B, 0, none⟩)] w fun e w' => e = .returned .nilIface ∧ w' = w := by
  subst hn
  have hc := hb.cell
  go_enter Try.func135, Try.ntmps135
  go_wp2
  go_ret
  exact ⟨rfl, rfl⟩
set_option maxRecDepth 100000 in
set_option maxHeartbeats 4000000 in
theorem pop_some (w : World) (B g : Nat) (n c : Nat) (x : Value) (hb : Boxed w B 114 (.slice (some ⟨g, 0, none⟩) (n + 1) c)) (hn : n + 1 ≤ c) (hm : c ≤ 9223372036854775807) (hx : w.cell? ⟨g, n, none⟩ = some x) :
    Calls Try.prog 135 #[.pointer (some ⟨B, 0, none⟩)] w fun e w' => e = .returned x ∧ w' = w.setCell ⟨B, 0, none⟩ (.slice (some ⟨g, 0, none⟩) n c) := by
  have hc := hb.cell
  have hf := hb.frozen
  have hw := wid (x := (n : Int)) (by omega) (by omega)
  have z : ((n : Int) + 1 == 0) = false := by simp; omega
  have z0 : (0 ≤ (n : Int)) = True := eq_true (by omega)
  have z1 : ((n : Int) < (n : Int) + 1) = True := eq_true (by omega)
  have z2 : ((n : Int) ≤ (c : Int)) = True := eq_true (by omega)
  go_enter Try.func135, Try.ntmps135
  go_wp2
  go_ret
  exact ⟨rfl, rfl⟩
end Go.Proofs.Ytdiilocgjnlmiaa.Tre

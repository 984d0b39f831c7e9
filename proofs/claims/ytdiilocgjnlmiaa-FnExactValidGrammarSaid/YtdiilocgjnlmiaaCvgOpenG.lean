import Derived.Test.YtdiilocgjnlmiaaCvgOpen
import Derived.Test.YtdiilocgjnlmiaaCvgGramLaw
namespace Go.Proofs.Ytdiilocgjnlmiaa.Open
open Go.RowKit Go.Deep Go.Proofs.YtdiilocgjnlmiaaW.PrintWords Go.Proofs.YtdiilocgjnlmiaaW.PrintLast Go.Proofs.Ytdiilocgjnlmiaa.PAll Go.Proofs.Ytdiilocgjnlmiaa.Tre
section
variable {H : Type} {enc : TypeId × Value → H} {w : World} {base : Nat} {spare : Nat → Bool} {held : Bool}
theorem opens_mono {α : Type} {P : Program} {t : TypeId} {k : Kd α} {g g' : α → Prop} (h : Opens enc P w base spare held t k g) (hg : ∀ a, g a → g' a) : Opens enc P w base spare held t k g' := fun fuel cs x hx => by
  obtain ⟨a, h1, h2⟩ := h fuel cs x hx
  exact ⟨a, h1, hg a h2⟩
theorem opens_ints : Opens enc Try.prog w base spare held 38 (Kd.slice 3 (Kd.int .i64)) (fun l => l.length ≤ 9223372036854775807) :=
  opens_mono (opens_slice Try.underlying38 (by kernel_rfl) (opens_int Try.underlying3)) fun _ h => h.2
theorem opens_bytes : Opens enc Try.prog w base spare held 36 (Kd.slice 5 (Kd.int .u8)) (fun l => l.length ≤ 9223372036854775807) :=
  opens_mono (opens_slice Try.underlying36 (by kernel_rfl) (opens_int Try.underlying5)) fun _ h => h.2
theorem opens_op : Opens enc Try.prog w base spare held 234 k234 (fun a => a.f1.length ≤ 9223372036854775807) :=
  opens_mono (opens_iso _ (fun x => ⟨x.1, x.2.1, x.2.2⟩) (fun _ => rfl) (opens_3 (a := Kd.int .i64) (b := Kd.slice 3 (Kd.int .i64)) (c := Kd.int .i64) Try.underlying234 (by kernel_rfl) rfl rfl rfl (by kernel_rfl) (by kernel_rfl) (by kernel_rfl)
    (opens_int Try.underlying3) opens_ints (opens_int Try.underlying3))) fun _ h => h.2.1
theorem opens_ops : Opens enc Try.prog w base spare held 151 (Kd.slice 234 k234) (fun l => l.length ≤ 9223372036854775807 ∧ ∀ b ∈ l, b.f1.length ≤ 9223372036854775807) :=
  opens_mono (opens_slice Try.underlying151 (by kernel_rfl) opens_op) fun _ h => ⟨h.2, h.1⟩
theorem opens_rule : Opens enc Try.prog w base spare held 153 k153 (fun a => a.f0.length ≤ 9223372036854775807 ∧ a.f1.length ≤ 9223372036854775807 ∧ ∀ b ∈ a.f1, b.f1.length ≤ 9223372036854775807) :=
  opens_mono (opens_iso _ (fun x => ⟨x.1, x.2⟩) (fun _ => rfl) (opens_2 (a := Kd.slice 5 (Kd.int .u8)) (b := Kd.slice 234 k234) Try.underlying153 (by kernel_rfl) rfl rfl (by kernel_rfl) (by kernel_rfl) opens_bytes opens_ops)) fun _ h => ⟨h.1, h.2.1, h.2.2⟩
theorem opens_label : Opens enc Try.prog w base spare held 156 k156 (fun a => a.f0.length ≤ 9223372036854775807 ∧ a.f2.length ≤ 9223372036854775807 ∧ ∀ b ∈ a.f2, b.f1.length ≤ 9223372036854775807) :=
  opens_mono (opens_iso _ (fun x => ⟨x.1, x.2.1, x.2.2⟩) (fun _ => rfl) (opens_3 (a := Kd.slice 5 (Kd.int .u8)) (b := Kd.bool) (c := Kd.slice 234 k234) Try.underlying156 (by kernel_rfl) rfl rfl rfl (by kernel_rfl) (by kernel_rfl) (by kernel_rfl) opens_bytes (opens_bool Try.underlying4) opens_ops)) fun _ h => ⟨h.1, h.2.2.1, h.2.2.2⟩
theorem opens_rules : Opens enc Try.prog w base spare held 22 (Kd.slice 153 k153) inR :=
  opens_mono (opens_slice Try.underlying22 (by kernel_rfl) opens_rule) fun _ h => ⟨h.2, h.1⟩
theorem opens_labels : Opens enc Try.prog w base spare held 23 (Kd.slice 156 k156) inL :=
  opens_mono (opens_slice Try.underlying23 (by kernel_rfl) opens_label) fun _ h => ⟨h.2, h.1⟩
end
end Go.Proofs.Ytdiilocgjnlmiaa.Open

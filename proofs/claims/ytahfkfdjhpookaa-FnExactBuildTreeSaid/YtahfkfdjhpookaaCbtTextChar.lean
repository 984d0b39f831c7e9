import Derived.Test.YtahfkfdjhpookaaCbtPAllx2
import Derived.Test.YtahfkfdjhpookaaCbtPAllx3
import Derived.Test.YtahfkfdjhpookaaCbtPAllx4
namespace Go.Proofs.Ytahfkfdjhpookaa.Txt
open Go.RowKit Go.Proofs.Ytahfkfdjhpookaa.PAll Go.Proofs.YtahfkfdjhpookaaW.PrintWords Go.Proofs.YtahfkfdjhpookaaW.PrintLast
theorem wid {x : Int} (h0 : -9223372036854775808 ≤ x) (h1 : x < 9223372036854775808) : wrap64 x = x := by
  unfold wrap64; omega
/-- the reference's answer in closed form: a valid character of n bytes stands at a -/
def R2 (l : List Int) (a : Int) : Prop := a + 2 ≤ l.length ∧ 194 ≤ rd l a ∧ rd l a ≤ 223 ∧ 128 ≤ rd l (a + 1) ∧ rd l (a + 1) ≤ 191
def R3 (l : List Int) (a : Int) : Prop := a + 3 ≤ l.length ∧ 224 ≤ rd l a ∧ rd l a ≤ 239 ∧ 128 ≤ rd l (a + 1) ∧ rd l (a + 1) ≤ 191 ∧ 128 ≤ rd l (a + 2) ∧ rd l (a + 2) ≤ 191 ∧
  (rd l a = 224 → 160 ≤ rd l (a + 1)) ∧ (rd l a = 237 → rd l (a + 1) ≤ 159)
def R4 (l : List Int) (a : Int) : Prop := a + 4 ≤ l.length ∧ 240 ≤ rd l a ∧ rd l a ≤ 244 ∧ 128 ≤ rd l (a + 1) ∧ rd l (a + 1) ≤ 191 ∧ 128 ≤ rd l (a + 2) ∧ rd l (a + 2) ≤ 191 ∧ 128 ≤ rd l (a + 3) ∧ rd l (a + 3) ≤ 191 ∧
  (rd l a = 240 → 144 ≤ rd l (a + 1)) ∧ (rd l a = 244 → rd l (a + 1) ≤ 143)
instance (l : List Int) (a : Int) : Decidable (R2 l a) := by unfold R2; infer_instance
instance (l : List Int) (a : Int) : Decidable (R3 l a) := by unfold R3; infer_instance
instance (l : List Int) (a : Int) : Decidable (R4 l a) := by unfold R4; infer_instance
end Go.Proofs.Ytahfkfdjhpookaa.Txt

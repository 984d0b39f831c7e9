/- where a line ends; texts of bytes. -/
import Derived.Test.YtahfkfdjhpookaaDoorTextIter
import Derived.Test.YtahfkfdjhpookaaDoorQuietRound
import Derived.Test.YtahfkfdjhpookaaDoorPAllx4
namespace Go.Proofs.YtahfkfdjhpookaaDoor.Txt
open Go.RowKit Go.Shelf Go.BigFrame Go.Proofs.YtahfkfdjhpookaaDoorW.PrintWords Go.Proofs.YtahfkfdjhpookaaDoorW.PrintLast
open Go.Proofs.YtahfkfdjhpookaaDoor.PAll
attribute [local go_sem] Oper.semAt_some


/-- where a line ends: its newline, or the text's end -/
def enF (l : List Int) : Nat → Nat → Nat
  | 0, _ => l.length
  | f + 1, a => if a < l.length then (if rd l (a : Int) = 10 then a else enF l f (a + 1)) else l.length
def endOf (l : List Int) (s : Nat) : Nat := enF l (l.length + 1) s

theorem end_l0 (l : List Int) (hm : l.length < 281474976710657) : ∀ (f k a : Nat), l.length < a + f → f < k → impl_lines_end.l0 k l (a : Int) = some (enF l f a : Int)
  | _, 0, _, _, h => by omega
  | 0, k + 1, a, h, _ => by rw [impl_lines_end.l0, if_neg (by omega), enF]
  | f + 1, k + 1, a, h, hk => by
    rw [impl_lines_end.l0, enF]
    by_cases c : a < l.length
    · rw [if_pos (by omega), if_pos (by omega), if_pos c]
      by_cases d : rd l (a : Int) = 10
      · rw [if_pos d, if_pos d]
      · rw [if_neg d, if_neg d, wid (x := (a : Int) + 1) (by omega) (by omega)]
        exact end_l0 l hm f k (a + 1) (by omega) (by omega)
    · rw [if_neg (by omega), if_neg c]

theorem end_f (l : List Int) (hm : l.length < 281474976710657) (s : Nat) : impl_lines_end.f (l.length + 2) l (s : Int) = some (endOf l s : Int) :=
  end_l0 l hm (l.length + 1) (l.length + 2) s (by omega) (by omega)

theorem Text.drewN {w : World} {A : Option Addr} {c : Nat} {l : List Int} (h : Text w A c l) (n : Nat) : Text (w.drewN n) A c l := h.below (pw_below_drewN (Below.refl _ _) n)

theorem end_calls {w : World} {A : Option Addr} {c : Nat} {l : List Int} (hT : Text w A c l) (s : Nat) :
    Calls Tryd.prog 16 #[.slice A l.length c, .int .i64 (s : Int)] w fun e w' => e = .returned (.int .i64 (endOf l s : Int)) ∧ Drawn0 w w' :=
  impl_lines_end.calls _ A c l (s : Int) _ w hT.reads hT.cap (end_f l hT.small s)

theorem quiet_of_drawn {F : Fence} {n : Nat} {P : Program} {f : FuncId} {args : Array Value} {w : World} {k : Nat} {v : Value} (h : CallsIn F n P f args (w.drewN k) fun e w' => e = .returned v ∧ Drawn0 (w.drewN k) w') :
    CallsIn F n P f args (w.drewN k) fun e w'' => e = .returned v ∧ ∃ m, w'' = w.drewN m :=
  h.mono fun e w' ⟨he, ⟨hd⟩⟩ => ⟨he, by obtain ⟨m, rfl⟩ := hd; exact ⟨k + m, World.drewN_drewN ..⟩⟩

/-- the offset of a column in the line that begins at s -/
def offIn (l : List Int) (s : Nat) (col : Int) : Int :=
  if 1 ≤ col ∧ col ≤ (chF l (l.length + 1) s).length then ((chF l (l.length + 1) s).getD (col - 1).toNat 0 : Nat) else if endOf l s = l.length ∧ ((chF l (l.length + 1) s).length : Int) + 1 = col then (l.length : Int) else -1
/-- the offset of a line and a column -/
def offOf (l : List Int) (line col : Int) : Int :=
  if 1 ≤ line ∧ line ≤ (upS l l.length).length then offIn l ((upS l l.length).getD (line - 1).toNat 0) col else -1

/-- the last of what has come, behind a prefix of all -/
theorem last_of_prefix {pre all : List Nat} (h : pre <+: all) (hp : 0 < pre.length) : all.getD (pre.length - 1) 0 = pre.getLastD 0 := by
  obtain ⟨q, rfl⟩ := h
  cases pre with
  | nil => simp at hp
  | cons x xs =>
    rw [List.getD_eq_getElem?_getD, List.getElem?_append_left (by simp)]
    simp [List.getLastD_eq_getLast?, List.getLast?_eq_getElem?]

/-- all numbers are bytes, and they are not too many -/
def okText (l : List Int) : Bool := l.all (fun x => decide (0 ≤ x) && decide (x ≤ 255)) && decide (l.length < 281474976710657)
theorem okText_byt {l : List Int} (h : okText l = true) : Byt l ∧ l.length < 281474976710657 := by
  simp only [okText, Bool.and_eq_true, List.all_eq_true, decide_eq_true_eq] at h
  refine ⟨fun i => ?_, h.2⟩
  unfold rd
  by_cases hi : i.toNat < l.length
  · have := h.1 (l[i.toNat]) (List.getElem_mem hi)
    simp [List.getD_eq_getElem?_getD, hi]
    omega
  · simp [List.getD_eq_getElem?_getD, List.getElem?_eq_none (Nat.le_of_not_lt hi)]
theorem okText_of {l : List Int} (h : ∀ x ∈ l, (Lit.int .u8 x).wf = true) (hl : l.length < 281474976710657) : okText l = true := by
  simp only [okText, Bool.and_eq_true, List.all_eq_true, decide_eq_true_eq]
  refine ⟨fun x hx => ?_, hl⟩
  have := h x hx
  have e0 : IntKind.u8.min = 0 := by decide
  have e1 : IntKind.u8.max = 255 := by decide
  simp [Lit.wf, e0, e1] at this
  exact this

theorem Text.of {w : World} {A : Option Addr} {c : Nat} {l : List Int} (hr : Kd.C (Kd.int .u8) w A l.length l) (hc : l.length ≤ c) (h : okText l = true) : Text w A c l := ⟨hr, hc, (okText_byt h).1, (okText_byt h).2⟩
end Go.Proofs.YtahfkfdjhpookaaDoor.Txt

/- Lemmas of the proof, and the walks of functions that it stands on. -/
import Derived.Test.YtdiilocgjnlmiaaCchGoodBody
import Derived.Deep.DeepMust
import Derived.Deep.RegionHeld3
import Derived.Outline
import Derived.Lib.LazyBuf
import Derived.Laws.AppendOwn
import Derived.Test.YtdiilocgjnlmiaaCchTreeWalk
import Derived.Maps.OwnOps
import Derived.Maps.Views
import Derived.Test.YtdiilocgjnlmiaaCchFlat
section
namespace Go.Proofs.Ytdiilocgjnlmiaa.Tre
open Go.RowKit Go.Proofs.YtdiilocgjnlmiaaW.PrintWords Go.Proofs.YtdiilocgjnlmiaaW.PrintLast Go.Proofs.YtdiilocgjnlmiaaW.PrintMore
open Go.Proofs.Ytdiilocgjnlmiaa.PAll
set_option linter.unusedVariables false
set_option linter.unusedSimpArgs false
structure MkV (W : World) (A : Option Addr) (c : Nat) (m : List Bool) : Prop where
 cells : Kd.C Kd.bool W A m.length m
 cap : m.length ≤ c
theorem MkV.below {W W' : World} {A : Option Addr} {c : Nat} {m : List Bool} (h : MkV W A c m) (hb : Below W.heap.size W W') : MkV W' A c m := ⟨Kd.C_below h.cells hb, h.cap⟩
theorem MkV.at {W : World} {A : Option Addr} {c : Nat} {m : List Bool} (h : MkV W A c m) {i : Nat} (hi : i < m.length) : ∃ ad, A = some ad ∧ W.cell? (ad.add i) = some (.bool (mkd m i)) := by
 obtain ⟨ad, e, hc⟩ := Kd.at_bool h.cells (i : Int) (by omega) (by omega)
 rw [rdOf_mkd rfl] at hc
 exact ⟨ad, e, by simpa using hc⟩
theorem ta_gen {P : Program} (S X : TypeId) (ut : TypeDesc) (hu : P.underlying S = some ut) (hni : ∀ ms, ut ≠ .interface ms) (z : Value) (hz : ∀ w, (zeroValue S).run P w = .ok z w) (T : TypeId) (u : Value) (w : World) :
 (Instr.typeAssert (.iface T u) X S true).run P w = .ok (if T = S then .tuple #[u, .bool true] else .tuple #[z, .bool false]) w := by
 unfold Instr.typeAssert
 simp only [Sem.run_bind, run_underlying hu, Result.andThen_ok]
 cases ut <;> first | (exact absurd rfl (hni _)) | skip
 all_goals
  by_cases h : T = S
  ·simp [h]
  simp [h, hz]
theorem ta_nil {P : Program} (S X : TypeId) (ut : TypeDesc) (hu : P.underlying S = some ut) (hni : ∀ ms, ut ≠ .interface ms) (z : Value) (hz : ∀ w, (zeroValue S).run P w = .ok z w) (w : World) :
 (Instr.typeAssert .nilIface X S true).run P w = .ok (.tuple #[z, .bool false]) w := by
 unfold Instr.typeAssert
 simp only [Sem.run_bind, run_underlying hu, Result.andThen_ok]
 cases ut <;> first | (exact absurd rfl (hni _)) | skip
 all_goals simp [hz]
theorem ta_set (T : TypeId) (u : Value) (w : World) : (Instr.typeAssert (.iface T u) 127 200 true).run Try.prog w = .ok (if T = 200 then .tuple #[u, .bool true] else .tuple #[.agg #[.slice none 0 0], .bool false]) w :=
 ta_gen _ _ _ Try.underlying200 (by intro ms h; cases h) _ (fun _ => by kernel_rfl) T u w
theorem tn_set (w : World) : (Instr.typeAssert .nilIface 127 200 true).run Try.prog w = .ok (.tuple #[.agg #[.slice none 0 0], .bool false]) w :=
 ta_nil _ _ _ Try.underlying200 (by intro ms h; cases h) _ (fun _ => by kernel_rfl) w
theorem ta_ref (T : TypeId) (u : Value) (w : World) : (Instr.typeAssert (.iface T u) 127 202 true).run Try.prog w = .ok (if T = 202 then .tuple #[u, .bool true] else .tuple #[.agg #[.int .i64 0], .bool false]) w :=
 ta_gen _ _ _ Try.underlying202 (by intro ms h; cases h) _ (fun _ => by kernel_rfl) T u w
theorem tn_ref (w : World) : (Instr.typeAssert .nilIface 127 202 true).run Try.prog w = .ok (.tuple #[.agg #[.int .i64 0], .bool false]) w :=
 ta_nil _ _ _ Try.underlying202 (by intro ms h; cases h) _ (fun _ => by kernel_rfl) w
theorem ta_thr (T : TypeId) (u : Value) (w : World) : (Instr.typeAssert (.iface T u) 127 204 true).run Try.prog w = .ok (if T = 204 then .tuple #[u, .bool true] else .tuple #[.agg #[.int .i64 0], .bool false]) w :=
 ta_gen _ _ _ Try.underlying204 (by intro ms h; cases h) _ (fun _ => by kernel_rfl) T u w
theorem tn_thr (w : World) : (Instr.typeAssert .nilIface 127 204 true).run Try.prog w = .ok (.tuple #[.agg #[.int .i64 0], .bool false]) w :=
 ta_nil _ _ _ Try.underlying204 (by intro ms h; cases h) _ (fun _ => by kernel_rfl) w
theorem ta_seq (T : TypeId) (u : Value) (w : World) : (Instr.typeAssert (.iface T u) 127 189 true).run Try.prog w = .ok (if T = 189 then .tuple #[u, .bool true] else .tuple #[.agg #[.nilIface, .nilIface], .bool false]) w :=
 ta_gen _ _ _ Try.underlying189 (by intro ms h; cases h) _ (fun _ => by kernel_rfl) T u w
theorem tn_seq (w : World) : (Instr.typeAssert .nilIface 127 189 true).run Try.prog w = .ok (.tuple #[.agg #[.nilIface, .nilIface], .bool false]) w :=
 ta_nil _ _ _ Try.underlying189 (by intro ms h; cases h) _ (fun _ => by kernel_rfl) w
theorem ta_alt (T : TypeId) (u : Value) (w : World) : (Instr.typeAssert (.iface T u) 127 190 true).run Try.prog w = .ok (if T = 190 then .tuple #[u, .bool true] else .tuple #[.agg #[.nilIface, .nilIface], .bool false]) w :=
 ta_gen _ _ _ Try.underlying190 (by intro ms h; cases h) _ (fun _ => by kernel_rfl) T u w
theorem tn_alt (w : World) : (Instr.typeAssert .nilIface 127 190 true).run Try.prog w = .ok (.tuple #[.agg #[.nilIface, .nilIface], .bool false]) w :=
 ta_nil _ _ _ Try.underlying190 (by intro ms h; cases h) _ (fun _ => by kernel_rfl) w
theorem ta_star (T : TypeId) (u : Value) (w : World) : (Instr.typeAssert (.iface T u) 127 192 true).run Try.prog w = .ok (if T = 192 then .tuple #[u, .bool true] else .tuple #[.agg #[.nilIface], .bool false]) w :=
 ta_gen _ _ _ Try.underlying192 (by intro ms h; cases h) _ (fun _ => by kernel_rfl) T u w
theorem tn_star (w : World) : (Instr.typeAssert .nilIface 127 192 true).run Try.prog w = .ok (.tuple #[.agg #[.nilIface], .bool false]) w :=
 ta_nil _ _ _ Try.underlying192 (by intro ms h; cases h) _ (fun _ => by kernel_rfl) w
theorem ta_neg (T : TypeId) (u : Value) (w : World) : (Instr.typeAssert (.iface T u) 127 193 true).run Try.prog w = .ok (if T = 193 then .tuple #[u, .bool true] else .tuple #[.agg #[.nilIface], .bool false]) w :=
 ta_gen _ _ _ Try.underlying193 (by intro ms h; cases h) _ (fun _ => by kernel_rfl) T u w
theorem tn_neg (w : World) : (Instr.typeAssert .nilIface 127 193 true).run Try.prog w = .ok (.tuple #[.agg #[.nilIface], .bool false]) w :=
 ta_nil _ _ _ Try.underlying193 (by intro ms h; cases h) _ (fun _ => by kernel_rfl) w
theorem cell_lt {W : World} {a : Addr} {v : Value} (h : W.cell? a = some v) : a.block < W.heap.size := by
 unfold World.cell? at h
 cases hb : W.heap[a.block]? with
 | none => rw [hb] at h; cases h
 | some o => exact (Array.getElem?_eq_some_iff.1 hb).1
set_option maxRecDepth 100000 in
set_option maxHeartbeats 8000000 in
theorem nullT_in (R L : Nat) (m : List Bool) (Am : Option Addr) (cm : Nat) (hml : Aside0 (m.length = R + L)) (hR : R ≤ 100) (hL : L ≤ 100) (gA : Option Addr) (gn gc : Nat) : ∀ (t : Tr) (w : World) (v : Value), TrV w t v → okT R L t → MkV w Am cm m →
 Calls Try.prog 127 #[.agg #[.slice gA gn gc, .int .i64 (R : Int)], v, .slice Am m.length cm] w (BoolPost w (nullT R m t)) := by
 intro t
 induction t with
 | emp =>
  intro w v hv hok hm
  obtain rfl := hv
  have a1 := ta_set; have a2 := ta_ref; have a3 := ta_thr; have a4 := ta_seq; have a5 := ta_alt
  go_enter Try.func127, Try.ntmps127
  go_wp2_with fail
  go_ret
  exact ⟨rfl, below_alloc (Below.refl _ _) _⟩
 | set s =>
  intro w v hv hok hm
  obtain ⟨A, c, rfl, _⟩ := hv
  have a1 := ta_set; have a2 := ta_ref; have a3 := ta_thr; have a4 := ta_seq; have a5 := ta_alt
  go_enter Try.func127, Try.ntmps127
  go_wp2_with fail
  go_ret
  exact ⟨rfl, below_alloc (Below.refl _ _) _⟩
 | ref n =>
  intro w v hv hok hm
  obtain rfl := hv
  obtain ⟨k, rfl⟩ : ∃ k : Nat, n = (k : Int) := ⟨n.toNat, (Int.toNat_of_nonneg hok.1).symm⟩
  have hk : (k : Int) < (R : Int) := hok.2
  have hml' := hml.out
  obtain ⟨ad, rfl, x0⟩ := hm.at (i := k) (by omega)
  have lb := cell_lt x0
  have e1 : (0 ≤ (k : Int)) = True := eq_true (by omega)
  have e2 : ((k : Int) < (m.length : Int)) = True := eq_true (by omega)
  clear hm hok hml'
  have a1 := ta_set; have a2 := ta_ref; have a3 := ta_thr; have a4 := ta_seq; have a5 := ta_alt
  go_enter Try.func127, Try.ntmps127
  go_wp2_with fail
  go_ret
  exact ⟨rfl, below_alloc (below_alloc (Below.refl _ _) _) _⟩
 | thr n =>
  intro w v hv hok hm
  obtain rfl := hv
  obtain ⟨k, rfl⟩ : ∃ k : Nat, n = (k : Int) := ⟨n.toNat, (Int.toNat_of_nonneg hok.1).symm⟩
  have hk : (k : Int) < (L : Int) := hok.2
  have hml' := hml.out
  obtain ⟨ad, rfl, x0⟩ := hm.at (i := R + k) (by omega)
  have lb := cell_lt x0
  have ew := wid (x := (R : Int) + (k : Int)) (by omega) (by omega)
  have e1 : (0 ≤ (R : Int) + (k : Int)) = True := eq_true (by omega)
  have e2 : ((R : Int) + (k : Int) < (m.length : Int)) = True := eq_true (by omega)
  have e3 : ((R : Int) + (k : Int)).toNat = R + k := by omega
  clear hm hok hml'
  have a1 := ta_set; have a2 := ta_ref; have a3 := ta_thr; have a4 := ta_seq; have a5 := ta_alt
  go_enter Try.func127, Try.ntmps127
  go_wp2_with fail
  go_ret
  exact ⟨rfl, below_alloc (below_alloc (Below.refl _ _) _) _⟩
 | star x ih =>
  intro w v hv hok hm
  obtain ⟨a, rfl, _⟩ := hv
  have a1 := ta_set; have a2 := ta_ref; have a3 := ta_thr; have a4 := ta_seq; have a5 := ta_alt
  go_enter Try.func127, Try.ntmps127
  go_wp2_with fail
  go_ret
  exact ⟨rfl, below_alloc (Below.refl _ _) _⟩
 | neg x ih =>
  intro w v hv hok hm
  obtain ⟨a, rfl, _⟩ := hv
  have a1 := ta_set; have a2 := ta_ref; have a3 := ta_thr; have a4 := ta_seq; have a5 := ta_alt
  go_enter Try.func127, Try.ntmps127
  go_wp2_with fail
  go_ret
  exact ⟨rfl, below_alloc (Below.refl _ _) _⟩
 | seq l r ihl ihr =>
  intro w v hv hok hm
  obtain ⟨a, b, rfl, hl, hr⟩ := hv
  obtain ⟨Ta, ua, rfl⟩ := hl.iface
  obtain ⟨Tb, ub, rfl⟩ := hr.iface
  have B0 : ((w.alloc (.cells #[.slice gA gn gc, .int .i64 (R : Int)] 116)).alloc (.cells #[.iface Ta ua, .iface Tb ub] 189)).heap[w.heap.size]? = some (.cells #[.slice gA gn gc, .int .i64 (R : Int)] 116 (0, 0)) := blk_alloc (blk_new _ _) _
  have B1 : ((w.alloc (.cells #[.slice gA gn gc, .int .i64 (R : Int)] 116)).alloc (.cells #[.iface Ta ua, .iface Tb ub] 189)).heap[w.heap.size + 1]? = some (.cells #[.iface Ta ua, .iface Tb ub] 189 (0, 0)) := by
   have := blk_new (w.alloc (.cells #[.slice gA gn gc, .int .i64 (R : Int)] 116)) (.cells #[.iface Ta ua, .iface Tb ub] 189)
   rwa [World.size_alloc] at this
  have hW : Below w.heap.size w ((w.alloc (.cells #[.slice gA gn gc, .int .i64 (R : Int)] 116)).alloc (.cells #[.iface Ta ua, .iface Tb ub] 189)) := below_alloc (below_alloc (Below.refl _ _) _) _
  have HL := Aside0.mk (hl.below hW)
  have HR := Aside0.mk (hr.below hW)
  have HM := Aside0.mk (hm.below hW)
  have HOK := Aside0.mk hok
  have HW := Aside0.mk hW
  have HB0 := Aside0.mk B0
  have HB1 := Aside0.mk B1
  clear hl hr hm hok hW B0 B1
  have a1 := ta_set; have a2 := ta_ref; have a3 := ta_thr; have a4 := ta_seq; have a5 := ta_alt
  cases hn : nullT R m l with
  | false =>
   go_enter Try.func127, Try.ntmps127
   go_wp2_with (go_at_call 127; refine (ihl _ _ HL.out HOK.out.1 HM.out).mono ?_; go_must (rintro e W1 ⟨rfl, hb⟩; rw [hn]; have HX := Aside0.mk hb; have q0 := blk_cell (blk_below HB0.out hb) 0; have q1 := blk_cell (blk_below HB0.out hb) 1; have q2 := blk_cell (blk_below HB1.out hb) 0; have q3 := blk_cell (blk_below HB1.out hb) 1; clear hb))
   go_ret
   exact ⟨by rw [nullT, hn]; rfl, below_then HW.out HW.out.size HX.out⟩
  | true =>
   go_enter Try.func127, Try.ntmps127
   go_wp2_with (first | (go_at_call 127; refine (ihr _ _ (HR.out.below HX.out) HOK.out.2 (HM.out.below HX.out)).mono ?_; go_must (rintro e W2 ⟨rfl, hb⟩; have HY := Aside0.mk hb; clear hb)) | (go_at_call 127; refine (ihl _ _ HL.out HOK.out.1 HM.out).mono ?_; go_must (rintro e W1 ⟨rfl, hb⟩; rw [hn]; have HX := Aside0.mk hb; have q0 := blk_cell (blk_below HB0.out hb) 0; have q1 := blk_cell (blk_below HB0.out hb) 1; have q2 := blk_cell (blk_below HB1.out hb) 0; have q3 := blk_cell (blk_below HB1.out hb) 1; clear hb)))
   go_ret
   exact ⟨by rw [nullT, hn]; rfl, below_then (below_then HW.out HW.out.size HX.out) (Nat.le_trans HW.out.size HX.out.size) HY.out⟩
 | alt l r ihl ihr =>
  intro w v hv hok hm
  obtain ⟨a, b, rfl, hl, hr⟩ := hv
  obtain ⟨Ta, ua, rfl⟩ := hl.iface
  obtain ⟨Tb, ub, rfl⟩ := hr.iface
  have B0 : ((w.alloc (.cells #[.slice gA gn gc, .int .i64 (R : Int)] 116)).alloc (.cells #[.iface Ta ua, .iface Tb ub] 190)).heap[w.heap.size]? = some (.cells #[.slice gA gn gc, .int .i64 (R : Int)] 116 (0, 0)) := blk_alloc (blk_new _ _) _
  have B1 : ((w.alloc (.cells #[.slice gA gn gc, .int .i64 (R : Int)] 116)).alloc (.cells #[.iface Ta ua, .iface Tb ub] 190)).heap[w.heap.size + 1]? = some (.cells #[.iface Ta ua, .iface Tb ub] 190 (0, 0)) := by
   have := blk_new (w.alloc (.cells #[.slice gA gn gc, .int .i64 (R : Int)] 116)) (.cells #[.iface Ta ua, .iface Tb ub] 190)
   rwa [World.size_alloc] at this
  have hW : Below w.heap.size w ((w.alloc (.cells #[.slice gA gn gc, .int .i64 (R : Int)] 116)).alloc (.cells #[.iface Ta ua, .iface Tb ub] 190)) := below_alloc (below_alloc (Below.refl _ _) _) _
  have HL := Aside0.mk (hl.below hW)
  have HR := Aside0.mk (hr.below hW)
  have HM := Aside0.mk (hm.below hW)
  have HOK := Aside0.mk hok
  have HW := Aside0.mk hW
  have HB0 := Aside0.mk B0
  have HB1 := Aside0.mk B1
  clear hl hr hm hok hW B0 B1
  have a1 := ta_set; have a2 := ta_ref; have a3 := ta_thr; have a4 := ta_seq; have a5 := ta_alt
  cases hn : nullT R m l with
  | true =>
   go_enter Try.func127, Try.ntmps127
   go_wp2_with (go_at_call 127; refine (ihl _ _ HL.out HOK.out.1 HM.out).mono ?_; go_must (rintro e W1 ⟨rfl, hb⟩; rw [hn]; have HX := Aside0.mk hb; have q0 := blk_cell (blk_below HB0.out hb) 0; have q1 := blk_cell (blk_below HB0.out hb) 1; have q2 := blk_cell (blk_below HB1.out hb) 0; have q3 := blk_cell (blk_below HB1.out hb) 1; clear hb))
   go_ret
   exact ⟨by rw [nullT, hn]; rfl, below_then HW.out HW.out.size HX.out⟩
  | false =>
   go_enter Try.func127, Try.ntmps127
   go_wp2_with (first | (go_at_call 127; refine (ihr _ _ (HR.out.below HX.out) HOK.out.2 (HM.out.below HX.out)).mono ?_; go_must (rintro e W2 ⟨rfl, hb⟩; have HY := Aside0.mk hb; clear hb)) | (go_at_call 127; refine (ihl _ _ HL.out HOK.out.1 HM.out).mono ?_; go_must (rintro e W1 ⟨rfl, hb⟩; rw [hn]; have HX := Aside0.mk hb; have q0 := blk_cell (blk_below HB0.out hb) 0; have q1 := blk_cell (blk_below HB0.out hb) 1; have q2 := blk_cell (blk_below HB1.out hb) 0; have q3 := blk_cell (blk_below HB1.out hb) 1; clear hb)))
   go_ret
   exact ⟨by rw [nullT, hn]; rfl, below_then (below_then HW.out HW.out.size HX.out) (Nat.le_trans HW.out.size HX.out.size) HY.out⟩
def OV (W : World) : Option Tr → Value → Prop
 | none, v => v = .nilIface
 | some t, v => TrV W t v
theorem OV.below {W W' : World} {o : Option Tr} {v : Value} (h : OV W o v) (hb : Below W.heap.size W W') : OV W' o v := by
 cases o with
 | none => exact h
 | some t => exact TrV.below hb h
theorem OV.one {W : World} {o : Option Tr} {v : Value} (h : OV W o v) : v = .nilIface ∨ ∃ T u, v = .iface T u := by
 cases o with
 | none => exact .inl h
 | some t => exact .inr (TrV.iface h)
set_option maxRecDepth 100000 in
set_option maxHeartbeats 8000000 in
theorem nullO_in {R L : Nat} {m : List Bool} {Am : Option Addr} {cm : Nat} (hml : Aside0 (m.length = R + L)) (hR : R ≤ 100) (hL : L ≤ 100) (gA : Option Addr) (gn gc : Nat) {o : Option Tr} {w : World} {v : Value} (hv : OV w o v) (hok : okO R L o) (hm : MkV w Am cm m) :
 Calls Try.prog 127 #[.agg #[.slice gA gn gc, .int .i64 (R : Int)], v, .slice Am m.length cm] w (BoolPost w (nullO R m o)) := by
 cases o with
 | some t => exact nullT_in R L m Am cm hml hR hL gA gn gc t w v hv (hok t rfl) hm
 | none =>
  obtain rfl := hv
  clear hm hml hok
  have a1 := tn_set
  go_enter Try.func127, Try.ntmps127
  go_wp2_with fail
  go_ret
  exact ⟨rfl, below_alloc (Below.refl _ _) _⟩
set_option maxRecDepth 100000 in
set_option maxHeartbeats 8000000 in
theorem loopsT_in (R L : Nat) (m : List Bool) (Am : Option Addr) (cm : Nat) (hml : Aside0 (m.length = R + L)) (hR : R ≤ 100) (hL : L ≤ 100) (gA : Option Addr) (gn gc : Nat) : ∀ (t : Tr) (w : World) (v : Value), TrV w t v → okT R L t → MkV w Am cm m →
 Calls Try.prog 87 #[.agg #[.slice gA gn gc, .int .i64 (R : Int)], v, .slice Am m.length cm] w (BoolPost w (loopsT R m t)) := by
 intro t
 induction t with
 | emp =>
  intro w v hv hok hm
  obtain rfl := hv
  clear hm hok hml
  have a1 := ta_seq; have a2 := ta_alt; have a3 := ta_star; have a4 := ta_neg
  go_enter Try.func87, Try.ntmps87
  go_wp2_with fail
  go_ret
  exact ⟨rfl, below_alloc (Below.refl _ _) _⟩
 | set s =>
  intro w v hv hok hm
  obtain ⟨A, c, rfl, _⟩ := hv
  clear hm hok hml
  have a1 := ta_seq; have a2 := ta_alt; have a3 := ta_star; have a4 := ta_neg
  go_enter Try.func87, Try.ntmps87
  go_wp2_with fail
  go_ret
  exact ⟨rfl, below_alloc (Below.refl _ _) _⟩
 | ref n =>
  intro w v hv hok hm
  obtain rfl := hv
  clear hm hok hml
  have a1 := ta_seq; have a2 := ta_alt; have a3 := ta_star; have a4 := ta_neg
  go_enter Try.func87, Try.ntmps87
  go_wp2_with fail
  go_ret
  exact ⟨rfl, below_alloc (Below.refl _ _) _⟩
 | thr n =>
  intro w v hv hok hm
  obtain rfl := hv
  clear hm hok hml
  have a1 := ta_seq; have a2 := ta_alt; have a3 := ta_star; have a4 := ta_neg
  go_enter Try.func87, Try.ntmps87
  go_wp2_with fail
  go_ret
  exact ⟨rfl, below_alloc (Below.refl _ _) _⟩
 | seq l r ihl ihr =>
  intro w v hv hok hm
  obtain ⟨a, b, rfl, hl, hr⟩ := hv
  obtain ⟨Ta, ua, rfl⟩ := hl.iface
  obtain ⟨Tb, ub, rfl⟩ := hr.iface
  have B0 : ((w.alloc (.cells #[.slice gA gn gc, .int .i64 (R : Int)] 116)).alloc (.cells #[.iface Ta ua, .iface Tb ub] 189)).heap[w.heap.size]? = some (.cells #[.slice gA gn gc, .int .i64 (R : Int)] 116 (0, 0)) := blk_alloc (blk_new _ _) _
  have B1 : ((w.alloc (.cells #[.slice gA gn gc, .int .i64 (R : Int)] 116)).alloc (.cells #[.iface Ta ua, .iface Tb ub] 189)).heap[w.heap.size + 1]? = some (.cells #[.iface Ta ua, .iface Tb ub] 189 (0, 0)) := by
   have := blk_new (w.alloc (.cells #[.slice gA gn gc, .int .i64 (R : Int)] 116)) (.cells #[.iface Ta ua, .iface Tb ub] 189)
   rwa [World.size_alloc] at this
  have hW : Below w.heap.size w ((w.alloc (.cells #[.slice gA gn gc, .int .i64 (R : Int)] 116)).alloc (.cells #[.iface Ta ua, .iface Tb ub] 189)) := below_alloc (below_alloc (Below.refl _ _) _) _
  have HL := Aside0.mk (hl.below hW)
  have HR := Aside0.mk (hr.below hW)
  have HM := Aside0.mk (hm.below hW)
  have HOK := Aside0.mk hok
  have HW := Aside0.mk hW
  have HB0 := Aside0.mk B0
  have HB1 := Aside0.mk B1
  clear hl hr hm hok hW B0 B1 hml
  have a1 := ta_seq; have a2 := ta_alt; have a3 := ta_star; have a4 := ta_neg
  cases hn : loopsT R m l with
  | true =>
   go_enter Try.func87, Try.ntmps87
   go_wp2_with (go_at_call 87; refine (ihl _ _ HL.out HOK.out.1 HM.out).mono ?_; go_must (rintro e W1 ⟨rfl, hb⟩; rw [hn]; have HX := Aside0.mk hb; have q0 := blk_cell (blk_below HB0.out hb) 0; have q1 := blk_cell (blk_below HB0.out hb) 1; have q2 := blk_cell (blk_below HB1.out hb) 0; have q3 := blk_cell (blk_below HB1.out hb) 1; clear hb))
   go_ret
   exact ⟨by rw [loopsT, hn]; rfl, below_then HW.out HW.out.size HX.out⟩
  | false =>
   go_enter Try.func87, Try.ntmps87
   go_wp2_with (first | (go_at_call 87; refine (ihr _ _ (HR.out.below HX.out) HOK.out.2 (HM.out.below HX.out)).mono ?_; go_must (rintro e W2 ⟨rfl, hb⟩; have HY := Aside0.mk hb; clear hb)) | (go_at_call 87; refine (ihl _ _ HL.out HOK.out.1 HM.out).mono ?_; go_must (rintro e W1 ⟨rfl, hb⟩; rw [hn]; have HX := Aside0.mk hb; have q0 := blk_cell (blk_below HB0.out hb) 0; have q1 := blk_cell (blk_below HB0.out hb) 1; have q2 := blk_cell (blk_below HB1.out hb) 0; have q3 := blk_cell (blk_below HB1.out hb) 1; clear hb)))
   go_ret
   exact ⟨by rw [loopsT, hn]; rfl, below_then (below_then HW.out HW.out.size HX.out) (Nat.le_trans HW.out.size HX.out.size) HY.out⟩
 | alt l r ihl ihr =>
  intro w v hv hok hm
  obtain ⟨a, b, rfl, hl, hr⟩ := hv
  obtain ⟨Ta, ua, rfl⟩ := hl.iface
  obtain ⟨Tb, ub, rfl⟩ := hr.iface
  have B0 : ((w.alloc (.cells #[.slice gA gn gc, .int .i64 (R : Int)] 116)).alloc (.cells #[.iface Ta ua, .iface Tb ub] 190)).heap[w.heap.size]? = some (.cells #[.slice gA gn gc, .int .i64 (R : Int)] 116 (0, 0)) := blk_alloc (blk_new _ _) _
  have B1 : ((w.alloc (.cells #[.slice gA gn gc, .int .i64 (R : Int)] 116)).alloc (.cells #[.iface Ta ua, .iface Tb ub] 190)).heap[w.heap.size + 1]? = some (.cells #[.iface Ta ua, .iface Tb ub] 190 (0, 0)) := by
   have := blk_new (w.alloc (.cells #[.slice gA gn gc, .int .i64 (R : Int)] 116)) (.cells #[.iface Ta ua, .iface Tb ub] 190)
   rwa [World.size_alloc] at this
  have hW : Below w.heap.size w ((w.alloc (.cells #[.slice gA gn gc, .int .i64 (R : Int)] 116)).alloc (.cells #[.iface Ta ua, .iface Tb ub] 190)) := below_alloc (below_alloc (Below.refl _ _) _) _
  have HL := Aside0.mk (hl.below hW)
  have HR := Aside0.mk (hr.below hW)
  have HM := Aside0.mk (hm.below hW)
  have HOK := Aside0.mk hok
  have HW := Aside0.mk hW
  have HB0 := Aside0.mk B0
  have HB1 := Aside0.mk B1
  clear hl hr hm hok hW B0 B1 hml
  have a1 := ta_seq; have a2 := ta_alt; have a3 := ta_star; have a4 := ta_neg
  cases hn : loopsT R m l with
  | true =>
   go_enter Try.func87, Try.ntmps87
   go_wp2_with (go_at_call 87; refine (ihl _ _ HL.out HOK.out.1 HM.out).mono ?_; go_must (rintro e W1 ⟨rfl, hb⟩; rw [hn]; have HX := Aside0.mk hb; have q0 := blk_cell (blk_below HB0.out hb) 0; have q1 := blk_cell (blk_below HB0.out hb) 1; have q2 := blk_cell (blk_below HB1.out hb) 0; have q3 := blk_cell (blk_below HB1.out hb) 1; clear hb))
   go_ret
   exact ⟨by rw [loopsT, hn]; rfl, below_then HW.out HW.out.size HX.out⟩
  | false =>
   go_enter Try.func87, Try.ntmps87
   go_wp2_with (first | (go_at_call 87; refine (ihr _ _ (HR.out.below HX.out) HOK.out.2 (HM.out.below HX.out)).mono ?_; go_must (rintro e W2 ⟨rfl, hb⟩; have HY := Aside0.mk hb; clear hb)) | (go_at_call 87; refine (ihl _ _ HL.out HOK.out.1 HM.out).mono ?_; go_must (rintro e W1 ⟨rfl, hb⟩; rw [hn]; have HX := Aside0.mk hb; have q0 := blk_cell (blk_below HB0.out hb) 0; have q1 := blk_cell (blk_below HB0.out hb) 1; have q2 := blk_cell (blk_below HB1.out hb) 0; have q3 := blk_cell (blk_below HB1.out hb) 1; clear hb)))
   go_ret
   exact ⟨by rw [loopsT, hn]; rfl, below_then (below_then HW.out HW.out.size HX.out) (Nat.le_trans HW.out.size HX.out.size) HY.out⟩
 | star x ih =>
  intro w v hv hok hm
  obtain ⟨a, rfl, hl⟩ := hv
  obtain ⟨Ta, ua, rfl⟩ := hl.iface
  have B0 : ((w.alloc (.cells #[.slice gA gn gc, .int .i64 (R : Int)] 116)).alloc (.cells #[.iface Ta ua] 192)).heap[w.heap.size]? = some (.cells #[.slice gA gn gc, .int .i64 (R : Int)] 116 (0, 0)) := blk_alloc (blk_new _ _) _
  have B1 : ((w.alloc (.cells #[.slice gA gn gc, .int .i64 (R : Int)] 116)).alloc (.cells #[.iface Ta ua] 192)).heap[w.heap.size + 1]? = some (.cells #[.iface Ta ua] 192 (0, 0)) := by
   have := blk_new (w.alloc (.cells #[.slice gA gn gc, .int .i64 (R : Int)] 116)) (.cells #[.iface Ta ua] 192)
   rwa [World.size_alloc] at this
  have hW : Below w.heap.size w ((w.alloc (.cells #[.slice gA gn gc, .int .i64 (R : Int)] 116)).alloc (.cells #[.iface Ta ua] 192)) := below_alloc (below_alloc (Below.refl _ _) _) _
  have HL := Aside0.mk (hl.below hW)
  have HM := Aside0.mk (hm.below hW)
  have HOK : Aside0 (okT R L x) := Aside0.mk hok
  have HW := Aside0.mk hW
  have HB0 := Aside0.mk B0
  have HB1 := Aside0.mk B1
  have gR := hR
  have gL := hL
  clear hl hm hok hW B0 B1
  have a1 := ta_seq; have a2 := ta_alt; have a3 := ta_star; have a4 := ta_neg
  cases hn : nullT R m x with
  | true =>
   go_enter Try.func87, Try.ntmps87
   go_wp2_with (go_at_call 127; refine (nullT_in R L m Am cm hml gR gL gA gn gc x _ _ HL.out HOK.out HM.out).mono ?_; go_must (rintro e W1 ⟨rfl, hb⟩; rw [hn]; have HX := Aside0.mk hb; have q0 := blk_cell (blk_below HB0.out hb) 0; have q1 := blk_cell (blk_below HB0.out hb) 1; have q2 := blk_cell (blk_below HB1.out hb) 0; clear hb))
   go_ret
   exact ⟨by rw [loopsT, hn]; rfl, below_then HW.out HW.out.size HX.out⟩
  | false =>
   go_enter Try.func87, Try.ntmps87
   go_wp2_with (first | (go_at_call 87; refine (ih _ _ (HL.out.below HX.out) HOK.out (HM.out.below HX.out)).mono ?_; go_must (rintro e W2 ⟨rfl, hb⟩; have HY := Aside0.mk hb; clear hb)) | (go_at_call 127; refine (nullT_in R L m Am cm hml gR gL gA gn gc x _ _ HL.out HOK.out HM.out).mono ?_; go_must (rintro e W1 ⟨rfl, hb⟩; rw [hn]; have HX := Aside0.mk hb; have q0 := blk_cell (blk_below HB0.out hb) 0; have q1 := blk_cell (blk_below HB0.out hb) 1; have q2 := blk_cell (blk_below HB1.out hb) 0; clear hb)))
   go_ret
   exact ⟨by rw [loopsT, hn]; rfl, below_then (below_then HW.out HW.out.size HX.out) (Nat.le_trans HW.out.size HX.out.size) HY.out⟩
 | neg x ih =>
  intro w v hv hok hm
  obtain ⟨a, rfl, hl⟩ := hv
  obtain ⟨Ta, ua, rfl⟩ := hl.iface
  have B0 : ((w.alloc (.cells #[.slice gA gn gc, .int .i64 (R : Int)] 116)).alloc (.cells #[.iface Ta ua] 193)).heap[w.heap.size]? = some (.cells #[.slice gA gn gc, .int .i64 (R : Int)] 116 (0, 0)) := blk_alloc (blk_new _ _) _
  have B1 : ((w.alloc (.cells #[.slice gA gn gc, .int .i64 (R : Int)] 116)).alloc (.cells #[.iface Ta ua] 193)).heap[w.heap.size + 1]? = some (.cells #[.iface Ta ua] 193 (0, 0)) := by
   have := blk_new (w.alloc (.cells #[.slice gA gn gc, .int .i64 (R : Int)] 116)) (.cells #[.iface Ta ua] 193)
   rwa [World.size_alloc] at this
  have hW : Below w.heap.size w ((w.alloc (.cells #[.slice gA gn gc, .int .i64 (R : Int)] 116)).alloc (.cells #[.iface Ta ua] 193)) := below_alloc (below_alloc (Below.refl _ _) _) _
  have HL := Aside0.mk (hl.below hW)
  have HM := Aside0.mk (hm.below hW)
  have HOK : Aside0 (okT R L x) := Aside0.mk hok
  have HW := Aside0.mk hW
  clear hl hm hok hW B0 B1 hml
  have a1 := ta_seq; have a2 := ta_alt; have a3 := ta_star; have a4 := ta_neg
  go_enter Try.func87, Try.ntmps87
  go_wp2_with (go_at_call 87; refine (ih _ _ HL.out HOK.out HM.out).mono ?_; go_must (rintro e W1 ⟨rfl, hb⟩; have HX := Aside0.mk hb; clear hb))
  go_ret
  exact ⟨rfl, below_then HW.out HW.out.size HX.out⟩
set_option maxRecDepth 100000 in
set_option maxHeartbeats 8000000 in
theorem loopsO_in {R L : Nat} {m : List Bool} {Am : Option Addr} {cm : Nat} (hml : Aside0 (m.length = R + L)) (hR : R ≤ 100) (hL : L ≤ 100) (gA : Option Addr) (gn gc : Nat) {o : Option Tr} {w : World} {v : Value} (hv : OV w o v) (hok : okO R L o) (hm : MkV w Am cm m) :
 Calls Try.prog 87 #[.agg #[.slice gA gn gc, .int .i64 (R : Int)], v, .slice Am m.length cm] w (BoolPost w (loopsO R m o)) := by
 cases o with
 | some t => exact loopsT_in R L m Am cm hml hR hL gA gn gc t w v hv (hok t rfl) hm
 | none =>
  obtain rfl := hv
  clear hm hml hok
  have a1 := tn_seq; have a2 := tn_alt; have a3 := tn_star; have a4 := tn_neg
  go_enter Try.func87, Try.ntmps87
  go_wp2_with fail
  go_ret
  exact ⟨rfl, below_alloc (Below.refl _ _) _⟩
end Go.Proofs.Ytdiilocgjnlmiaa.Tre
end
section
namespace Go.Proofs.Ytdiilocgjnlmiaa.Tre
open Go.RowKit Go.Proofs.YtdiilocgjnlmiaaW.PrintWords Go.Proofs.YtdiilocgjnlmiaaW.PrintLast Go.Proofs.YtdiilocgjnlmiaaW.PrintMore
open Go.Proofs.Ytdiilocgjnlmiaa.PAll
set_option linter.unusedVariables false
set_option linter.unusedSimpArgs false
theorem own_same {W W' : World} {B : Nat} {t : TypeId} {sz : Nat} {v : Value} {n : Nat} {xs : List Value} (h : W.ownsRow B t sz v n xs) (hs : ∀ b, B ≤ b → b < W.heap.size → W'.heap[b]? = W.heap[b]?) : W'.ownsRow B t sz v n xs :=
 own_move h fun k hk => hs k (h.lt k hk).1 (h.lt k hk).2
theorem own_form1 {W : World} {B : Nat} {t : TypeId} {sz n : Nat} {v : Value} {xs : List Value} (h : W.ownsRow B t sz v n xs) : ∃ A c, v = .slice A n c := by
 rcases h.2 with ⟨rfl, rfl⟩ | ⟨g, cap, cur, rfl, _⟩
 ·exact ⟨_, _, rfl⟩
 exact ⟨_, _, rfl⟩
theorem own_box {W : World} {B : Nat} {t t' : TypeId} {sz : Nat} {v : Value} {n : Nat} {xs : List Value} {k : Nat} {cs : Array Value} (h : W.ownsRow B t sz v n xs) (hb : W.heap[k]? = some (.cells cs t' (0, 0))) (hne : t ≠ t') : some k ≠ v.ownBlock := by
 intro e
 obtain ⟨c1, h1⟩ := own_typed h k e.symm
 rw [hb] at h1
 simp only [Option.some.injEq, Obj.cells.injEq] at h1
 exact hne h1.2.1.symm
theorem own_set {W : World} {B : Nat} {t t' : TypeId} {sz : Nat} {v : Value} {n : Nat} {xs : List Value} {k : Nat} {cs : Array Value} (h : W.ownsRow B t sz v n xs) (hb : W.heap[k]? = some (.cells cs t' (0, 0))) (hne : t ≠ t') (i : Nat) (u : Value) : (W.setCell ⟨k, i, none⟩ u).ownsRow B t sz v n xs :=
 own_move h fun j hj => Below.heap_setCell _ _ _ _ (fun e => own_box h hb hne (by rw [hj]; exact congrArg some e.symm))
end Go.Proofs.Ytdiilocgjnlmiaa.Tre
end
section
namespace Go.Proofs.Ytdiilocgjnlmiaa.Tre
open Go.RowKit Go.Proofs.YtdiilocgjnlmiaaW.PrintWords Go.Proofs.YtdiilocgjnlmiaaW.PrintLast Go.Proofs.YtdiilocgjnlmiaaW.PrintMore
open Go.Proofs.Ytdiilocgjnlmiaa.PAll
set_option linter.unusedVariables false
set_option linter.unusedSimpArgs false
def TsL (W : World) (ts : List (Option Tr)) (i : Nat) (xs : List Value) : Prop := ∀ j, j < i → ∃ u, xs[j]? = some u ∧ OV W (tr ts j) u
theorem TsL.below {W W' : World} {ts : List (Option Tr)} {i : Nat} {xs : List Value} (h : TsL W ts i xs) (hb : Below W.heap.size W W') : TsL W' ts i xs := fun j hj => by
 obtain ⟨u, h1, h2⟩ := h j hj
 exact ⟨u, h1, h2.below hb⟩
structure TsV (W : World) (A : Option Addr) (c : Nat) (ts : List (Option Tr)) : Prop where
 get : ∀ j, j < ts.length → ∃ ad u, A = some ad ∧ W.cell? (ad.add j) = some u ∧ OV W (tr ts j) u
 cap : ts.length ≤ c
theorem TsV.below {W W' : World} {A : Option Addr} {c : Nat} {ts : List (Option Tr)} (h : TsV W A c ts) (hb : Below W.heap.size W W') : TsV W' A c ts := ⟨fun j hj => by
 obtain ⟨ad, u, h1, h2, h3⟩ := h.get j hj
 exact ⟨ad, u, h1, pw_cell_below hb h2, h3.below hb⟩, h.cap⟩
theorem own_get {W : World} {B : Nat} {t : TypeId} {A : Option Addr} {n c : Nat} {xs : List Value} (h : W.ownsRow B t 1 (.slice A n c) n xs) {j : Nat} {u : Value} (hu : xs[j]? = some u) : ∃ ad, A = some ad ∧ W.cell? (ad.add j) = some u := by
 have hl := h.1
 have hj : j < xs.length := (List.getElem?_eq_some_iff.1 hu).1
 rcases h.2 with ⟨_, h0⟩ | ⟨g, cap, cur, e, _⟩
 ·omega
 injection e with e1 e2 e3
 subst e1
 exact ⟨_, rfl, h.cells (g := g) rfl j u hu⟩
theorem own_cap {W : World} {B : Nat} {t : TypeId} {sz : Nat} {A : Option Addr} {n c : Nat} {xs : List Value} (h : W.ownsRow B t sz (.slice A n c) n xs) : n ≤ c := by
 rcases h.2 with ⟨e, h0⟩ | ⟨g, cap, cur, e, _, _, hn, _⟩
 ·omega
 injection e with e1 e2 e3
 omega
theorem ts_of_own {w W : World} {B : Nat} {t : TypeId} {A : Option Addr} {c : Nat} {ts : List (Option Tr)} {xs : List Value} (h : W.ownsRow B t 1 (.slice A ts.length c) ts.length xs) (hr : TsL w ts ts.length xs) (hb : Below w.heap.size w W) : TsV W A c ts :=
 ⟨fun j hj => by
  obtain ⟨u, h1, h2⟩ := hr j hj
  obtain ⟨ad, h3, h4⟩ := own_get h h1
  exact ⟨ad, u, h3, h4, h2.below hb⟩, own_cap h⟩
structure GoSt (w0 w W : World) (B : Nat) (R : Int) (ts : List (Option Tr)) (v : Value) (xs : List Value) (i : Nat) : Prop where
 box : W.heap[B]? = some (.cells #[v, .int .i64 R] 116 (0, 0))
 own : W.ownsRow w.heap.size 127 1 v i xs
 row : TsL w0 ts i xs
 bel : Below w.heap.size w W
theorem GoSt.below {w0 w W W' : World} {B : Nat} {R : Int} {ts : List (Option Tr)} {v : Value} {xs : List Value} {i : Nat} (h : GoSt w0 w W B R ts v xs i) (hb : Below W.heap.size W W') : GoSt w0 w W' B R ts v xs i :=
 ⟨blk_below h.box hb, own_same h.own (fun b _ hl => hb.block b hl), h.row, below_then h.bel h.bel.size hb⟩
theorem gs_append {ops : Array Oper} {rest : List Oper} {o : Oper} {a : Act} {Q : Exit → Act → World → Prop} {w0 w W : World} {B : Nat} {R : Int} {ts : List (Option Tr)} {v x : Value} {xs : List Value} {i : Nat} (hS : GoSt w0 w W B R ts v xs i) (hB : w.heap.size ≤ B) (hx : OV w0 (tr ts i) x)
 (hgd : o.guard = none) (sl y : Operand) (ho : o.op = .call { callee := .builtin .append, args := #[sl, y], argTypes := #[114, 114] })
 (hs : a.eval sl = v) (ob : Obj) (hob : ob = .cells #[x] 127) (c m : Nat) (hy : a.eval y = .slice (some ⟨m, 0, none⟩) 1 c) (hm : m = W.heap.size) (hl : i ≤ 1000)
 (h : ∀ A' c' W', W'.heap[B]? = some (.cells #[v, .int .i64 R] 116 (0, 0)) → Aside0 (GoSt w0 w (W'.setCell ⟨B, 0, none⟩ (.slice A' (i + 1) c')) B R ts (.slice A' (i + 1) c') (xs ++ [x]) (i + 1)) → wpList Try.prog ops Q rest (a.put o.dst (.slice A' (i + 1) c')) W') : wpList Try.prog ops Q (o :: rest) a (W.alloc ob) := by
 obtain ⟨ii, hi, hz, hs1, hby⟩ := info_parts infoE
 have hc1 : x.oneCell' = true := by rcases hx.one with rfl | ⟨T, u, rfl⟩ <;> rfl
 have hxl : xs.length = i := by have := hS.own.1; omega
 subst hob hm
 refine wpList_append_own (W.alloc _) hgd sl y 114 ho w.heap.size 127 ii .nilIface 1 16 Try.underlying114 hi hz hs1 hby rfl (by decide) v _ xs hs (hS.own.alloc _) ⟨W.heap.size, 0, none⟩ 1 c [x] hy rfl ?_ ?_ ?_ ?_ ?_ ?_
 ·intro j u hu
  match j, hu with
  | 0, hu => cases hu; exact (Boxed.new W _ _).cell
  | j + 1, hu => cases hu
 ·intro u hu
  rw [List.mem_singleton] at hu
  rw [hu]; exact hc1
 ·unfold maxLen; omega
 ·omega
 ·have := hS.bel.size; simp; omega
 intro v' w' hown' hgrow _
 obtain ⟨A', c', rfl⟩ : ∃ A' c', v' = .slice A' (i + 1) c' := own_form1 hown'
 have hb1 := blk_alloc hS.box (.cells #[x] 127)
 have ho1 := hS.own.alloc (.cells #[x] 127)
 have hbx : w'.heap[B]? = some (.cells #[v, .int .i64 R] 116 (0, 0)) := blk_grown hb1 hgrow (own_box ho1 hb1 (by decide))
 have hbw : Below w.heap.size w w' := (below_alloc hS.bel _).grown hgrow (by have := hS.bel.size; simp; omega) fun k hk => (hS.own.lt k hk).1
 refine h A' c' w' hbx ⟨blk_put hbx 0 _ rfl, own_set hown' hbx (by decide) 0 _, ?_, hbw.setCell hB _⟩
 intro j hj
 rcases (by omega : j < i ∨ j = i) with h' | rfl
 ·obtain ⟨u, h1, h2⟩ := hS.row j h'
  exact ⟨u, by rw [List.getElem?_append_left (by omega)]; exact h1, h2⟩
 exact ⟨x, by rw [List.getElem?_append_right (by omega), hxl, Nat.sub_self]; rfl, hx⟩
theorem ov_of_post {w0 w w' : World} {ops : List Op} {e : Ending} (h : TreePost w0 w ops e w') : ∃ v b, e = .returned (.tuple #[v, .bool b]) ∧ OV w0 (treeF ops) v ∧ Below w.heap.size w w' := by
 obtain ⟨v, b, h1, h2, _, h4, h5⟩ := h
 refine ⟨v, b, h1, ?_, h2⟩
 cases ht : treeF ops with
 | none => exact h4 ht
 | some t => exact h5 t ht
def GraphPost (w : World) (ts : List (Option Tr)) (R : Nat) (e : Ending) (w' : World) : Prop := ∃ A c, e = .returned (.agg #[.slice A ts.length c, .int .i64 (R : Int)]) ∧ TsV w' A c ts ∧ Below w.heap.size w w'
structure GOK (Rs : List Ru) (Ls : List La) : Prop where
 rt : ∀ i, i < Rs.length → ∃ t, treeF (ru Rs i).f1 = some t
 lt : ∀ j, j < Ls.length → (la Ls j).f1 = true → ∃ t, treeF (la Ls j).f2 = some t
 ln : ∀ j, j < Ls.length → (la Ls j).f1 = false → (la Ls j).f2 = []
theorem Valid.gok {Rs : List Ru} {Ls : List La} (h : Valid Rs Ls) : GOK Rs Ls := by
 refine ⟨fun i hi => ?_, fun j hj hh => ?_, fun j hj hh => List.length_eq_zero_iff.1 ((h.labels j hj).none hh)⟩
 ·obtain ⟨x, h1, _⟩ := body_tree (h.rules i hi).body
  exact ⟨x, h1⟩
 obtain ⟨x, h1, _⟩ := body_tree ((h.labels j hj).body hh)
 exact ⟨x, h1⟩
theorem tr_ru {Rs : List Ru} {Ls : List La} {i : Nat} (hi : i < Rs.length) {t : Tr} (h : treeF (ru Rs i).f1 = some t) : tr (trees Rs Ls) i = some t := by rw [tr_trees (by omega), bodyN_ru hi]; exact h
theorem tr_la {Rs : List Ru} {Ls : List La} {j : Nat} (hj : j < Ls.length) : tr (trees Rs Ls) (Rs.length + j) = treeF (la Ls j).f2 := by rw [tr_trees (by omega), bodyN_la hj]
set_option maxRecDepth 100000 in
set_option maxHeartbeats 8000000 in
theorem graphOf_in (w : World) (A0 A1 : Option Addr) (c0 c1 : Nat) (Rs : List Ru) (Ls : List La) (hr0 : Kd.C k68 w A0 Rs.length Rs) (hc0 : Rs.length ≤ c0) (hr1 : Kd.C k72 w A1 Ls.length Ls) (hc1 : Ls.length ≤ c1) (hok : okG Rs Ls = true) (hR : Rs.length ≤ 100) (hL : Ls.length ≤ 100) (hnb : GOK Rs Ls) :
 Calls Try.prog 80 #[.agg #[.slice A0 Rs.length c0, .slice A1 Ls.length c1]] w (GraphPost w (trees Rs Ls) Rs.length) := by
 have HR0 := Aside0.mk hr0
 have HL0 := Aside0.mk hr1
 have HNB := Aside0.mk hnb
 have HOK := Aside0.mk hok
 have HW2 : Aside0 (Below w.heap.size w ((w.alloc (Obj.cells #[.slice A0 Rs.length c0, .slice A1 Ls.length c1] 31)).alloc (Obj.cells #[.slice none 0 0, .int .i64 0] 116))) := ⟨below_alloc (below_alloc (Below.refl _ _) _) _⟩
 have HS2 : Aside0 (((w.alloc (Obj.cells #[.slice A0 Rs.length c0, .slice A1 Ls.length c1] 31)).alloc (Obj.cells #[.slice none 0 0, .int .i64 0] 116)).heap.size = w.heap.size + 1 + 1) := ⟨by simp⟩
 have HG2 := Aside0.mk (blk_alloc (blk_new w (Obj.cells #[.slice A0 Rs.length c0, .slice A1 Ls.length c1] 31)) (Obj.cells #[.slice none 0 0, .int .i64 0] 116))
 have HQ2 : Aside0 (((w.alloc (Obj.cells #[.slice A0 Rs.length c0, .slice A1 Ls.length c1] 31)).alloc (Obj.cells #[.slice none 0 0, .int .i64 0] 116)).heap[w.heap.size + 1]? = some (Obj.cells #[.slice none 0 0, .int .i64 0] 116 (0, 0))) := ⟨by
  have := blk_new (w.alloc (Obj.cells #[.slice A0 Rs.length c0, .slice A1 Ls.length c1] 31)) (Obj.cells #[.slice none 0 0, .int .i64 0] 116)
  rwa [World.size_alloc] at this⟩
 clear hr0 hr1 hok hnb
 go_enter Try.func80, Try.ntmps80
 go_wp2_with fail
 have hS0 : GoSt w ((w.alloc (Obj.cells #[.slice A0 Rs.length c0, .slice A1 Ls.length c1] 31)).alloc (Obj.cells #[.slice none 0 0, .int .i64 0] 116)) (((w.alloc (Obj.cells #[.slice A0 Rs.length c0, .slice A1 Ls.length c1] 31)).alloc (Obj.cells #[.slice none 0 0, .int .i64 0] 116)).alloc (Obj.cells #[.slice none 0 0, .int .i64 (Rs.length : Int)] 116)) (w.heap.size + 1 + 1) (Rs.length : Int) (trees Rs Ls) (.slice none 0 0) [] 0 :=
  ⟨by rw [← HS2.out]; exact blk_new _ _, own_nil _ _ _ _, fun j hj => absurd hj (Nat.not_lt_zero _), below_alloc (Below.refl _ _) _⟩
 generalize hW2 : (w.alloc (Obj.cells #[.slice A0 Rs.length c0, .slice A1 Ls.length c1] 31)).alloc (Obj.cells #[.slice none 0 0, .int .i64 0] 116) = W2 at *
 clear hW2
 go_loopg [19] (Rs.length + 1) (fun kq v19 W' => ∃ (i : Nat) (v : Value) (xs : List Value), v19 = .int .i64 (i : Int) ∧ Aside0 (i ≤ Rs.length ∧ Rs.length < i + kq) ∧ GoSt w W2 W' (w.heap.size + 1 + 1) (Rs.length : Int) (trees Rs Ls) v xs i)
 case atStart => exact ⟨0, _, _, rfl, ⟨by omega, by omega⟩, hS0⟩
 case round =>
  clear hS0
  obtain ⟨i, v, xs, rfl, HI, hS⟩ := hrel
  obtain ⟨i1, i2⟩ := HI.out
  clear HI
  cases gk with
  | zero => omega
  | succ k1 =>
   by_cases hi : i < Rs.length
   ·have d1 : decide ((i : Int) < (Rs.length : Int)) = true := decide_eq_true (by omega)
    obtain ⟨ad, AN, cN, AB, cB, rfl, x0, x1, y1, y2, y3, y4⟩ := at_T68 HR0.out (i : Int) (by omega) (by omega)
    rw [Int.toNat_natCast] at x0 x1
    have hbw := below_then HW2.out HW2.out.size hS.bel
    replace x0 := pw_cell_below hbw x0
    replace x1 := pw_cell_below hbw x1
    have e2 : (0 ≤ (i : Int)) = True := eq_true (by omega)
    have e3 : ((i : Int) < (Rs.length : Int)) = True := eq_true (by omega)
    obtain ⟨_, ok2⟩ := okG_ru HOK.out hi
    obtain ⟨t, ht⟩ := HNB.out.rt i hi
    have HT := Aside0.mk (tr_ru (Ls := Ls) hi ht)
    change okOps (rd_T68 Rs (i : Int)).f1 = true at ok2
    change treeF (rd_T68 Rs (i : Int)).f1 = some t at ht
    generalize hru : rd_T68 Rs (i : Int) = r at *
    obtain ⟨nm, bd⟩ := r
    simp only at x0 x1 y1 y2 y3 y4 ok2 ht
    clear hru y2
    have HBD := Aside0.mk y4
    have hbl := okOps_len ok2
    have HTF := Aside0.mk ht
    have HBW := Aside0.mk hbw
    have HS := Aside0.mk hS
    clear y4 ok2 ht hbw hS
    have q0 := blk_cell HS.out.box 0
    have q2 := blk_frozen HS.out.box 0
    have lb := blk_lt HS.out.box
    go_wp2_with (first
     | (go_at_call 90; refine (tree_at w _ ⟨below_alloc HBW.out _⟩ AB cB bd HBD.out y3 hbl).mono ?_; go_must (rintro e W3 hp; obtain ⟨u, b, rfl, hu, hb⟩ := ov_of_post hp; rw [HTF.out] at hu; obtain ⟨T, uu, rfl⟩ := TrV.iface hu; have HU := Aside0.mk (show OV w (tr (trees Rs Ls) i) _ from (by rw [HT.out]; exact hu)); have HS3 := Aside0.mk (HS.out.below (below_then (below_alloc (Below.refl _ _) _) (by simp) hb)); have p0 := blk_cell HS3.out.box 0; have p2 := blk_frozen HS3.out.box 0; have lb3 := blk_lt HS3.out.box; clear hp hu hb))
     | ((with_reducible refine gate_dst (N := 33) rfl ?_); go_must (refine gs_append HS3.out (by have := HS2.out; omega) HU.out rfl _ _ rfl rfl _ rfl _ _ rfl (by simp) (by omega) ?_; intro A' c' W4 hbx HN; have z0 := blk_cell hbx 0; have z2 := blk_frozen hbx 0; clear hbx)))
    go_roundg k1
    case measure => omega
    case rel => exact ⟨i + 1, _, _, by first | rfl, ⟨by omega, by omega⟩, HN.out⟩
   have d1 : decide ((i : Int) < (Rs.length : Int)) = false := decide_eq_false (by omega)
   obtain rfl : i = Rs.length := by omega
   have g1 := blk_cell (blk_below HG2.out hS.bel) 1
   have HS := Aside0.mk hS
   clear hS hi
   go_wp2_with fail
   have hS1 := HS.out
   go_loopg [39] (Ls.length + 1) (fun kq v39 W' => ∃ (j : Nat) (v : Value) (xs : List Value), v39 = .int .i64 (j : Int) ∧ Aside0 (j ≤ Ls.length ∧ Ls.length < j + kq) ∧ GoSt w W2 W' (w.heap.size + 1 + 1) (Rs.length : Int) (trees Rs Ls) v xs (Rs.length + j))
   case atStart => exact ⟨0, _, _, rfl, ⟨by omega, by omega⟩, hS1⟩
   case round =>
    clear hS1 HS
    obtain ⟨j, v, xs, rfl, HI, hS⟩ := hrel
    obtain ⟨i1, i2⟩ := HI.out
    clear HI
    cases gk with
    | zero => omega
    | succ k1 =>
     by_cases hj : j < Ls.length
     rotate_left
     ·have d1 : decide ((j : Int) < (Ls.length : Int)) = false := decide_eq_false (by omega)
      obtain rfl : j = Ls.length := by omega
      obtain ⟨Av, cv, rfl⟩ : ∃ A c, v = .slice A (Rs.length + Ls.length) c := own_form1 hS.own
      have r0 := blk_below HQ2.out hS.bel
      have s0 := blk_cell r0 0
      have s1 := blk_cell r0 1
      have s2 := blk_frozen r0 0
      have s3 := blk_frozen r0 1
      have q0 := blk_cell hS.box 0
      have q1 := blk_cell hS.box 1
      have HR0' := Aside0.mk r0
      have HS := Aside0.mk hS
      clear hS hj r0
      go_wp2_with fail
      have b1 := blk_put (cs' := #[.slice Av (Rs.length + Ls.length) cv, .int .i64 0]) HR0'.out 0 (.slice Av (Rs.length + Ls.length) cv) rfl
      refine bodyPost_ret (results_cell_row rfl _ _ (w.heap.size + 1) 116 #[.slice Av (Rs.length + Ls.length) cv, .int .i64 (Rs.length : Int)] (0, 0) _ rfl (blk_put (cs := #[.slice Av (Rs.length + Ls.length) cv, .int .i64 0]) b1 1 _ rfl) Try.underlying116 rfl (by kernel_rfl)) rfl ?_
      have hbF : Below w.heap.size w ((wr.setCell ⟨w.heap.size + 1, 0, none⟩ (.slice Av (Rs.length + Ls.length) cv)).setCell ⟨w.heap.size + 1, 1, none⟩ (.int .i64 (Rs.length : Int))) := ((below_then HW2.out HW2.out.size HS.out.bel).setCell (by simp) _).setCell (by simp) _
      refine ⟨Av, cv, by rw [len_trees], ts_of_own (by rw [len_trees]; exact own_set (own_set HS.out.own HR0'.out (by decide) 0 _) b1 (by decide) 1 _) (by rw [len_trees]; exact HS.out.row) hbF, hbF⟩
     have d1 : decide ((j : Int) < (Ls.length : Int)) = true := decide_eq_true (by omega)
     obtain ⟨ad, AN, cN, AB, cB, rfl, x0, x1, x2, y1, y2, y3, y4⟩ := at_T72 HL0.out (j : Int) (by omega) (by omega)
     rw [Int.toNat_natCast] at x0 x1 x2
     have hbw := below_then HW2.out HW2.out.size hS.bel
     replace x0 := pw_cell_below hbw x0
     replace x1 := pw_cell_below hbw x1
     replace x2 := pw_cell_below hbw x2
     have e2 : (0 ≤ (j : Int)) = True := eq_true (by omega)
     have e3 : ((j : Int) < (Ls.length : Int)) = True := eq_true (by omega)
     obtain ⟨_, ok2⟩ := okG_la HOK.out hj
     have HT := Aside0.mk (tr_la (Rs := Rs) (Ls := Ls) hj)
     have ht1 := HNB.out.lt j hj
     have ht2 := HNB.out.ln j hj
     change okOps (rd_T72 Ls (j : Int)).f2 = true at ok2
     change (rd_T72 Ls (j : Int)).f1 = true → ∃ t, treeF (rd_T72 Ls (j : Int)).f2 = some t at ht1
     change (rd_T72 Ls (j : Int)).f1 = false → (rd_T72 Ls (j : Int)).f2 = [] at ht2
     change Aside0 (tr (trees Rs Ls) (Rs.length + j) = treeF (rd_T72 Ls (j : Int)).f2) at HT
     generalize hru : rd_T72 Ls (j : Int) = r at *
     obtain ⟨nm, has, bd⟩ := r
     simp only at x0 x1 x2 y1 y2 y3 y4 ok2 ht1 ht2
     clear hru y2
     have HBD := Aside0.mk y4
     have hbl := okOps_len ok2
     have HBW := Aside0.mk hbw
     have HS := Aside0.mk hS
     clear y4 ok2 hbw hS
     have q0 := blk_cell HS.out.box 0
     have q2 := blk_frozen HS.out.box 0
     have lb := blk_lt HS.out.box
     cases has with
     | true =>
      obtain ⟨t, ht⟩ := ht1 rfl
      have HTF := Aside0.mk ht
      clear ht1 ht2 ht
      go_wp2_with (first
       | (go_at_call 90; refine (tree_at w _ ⟨below_alloc HBW.out _⟩ AB cB bd HBD.out y3 hbl).mono ?_; go_must (rintro e W3 hp; obtain ⟨u, b, rfl, hu, hb⟩ := ov_of_post hp; rw [HTF.out] at hu; obtain ⟨T, uu, rfl⟩ := TrV.iface hu; have HU := Aside0.mk (show OV w (tr (trees Rs Ls) (Rs.length + j)) _ from (by rw [HT.out]; rw [HTF.out]; exact hu)); have HS3 := Aside0.mk (HS.out.below (below_then (below_alloc (Below.refl _ _) _) (by simp) hb)); have p0 := blk_cell HS3.out.box 0; have p2 := blk_frozen HS3.out.box 0; have lb3 := blk_lt HS3.out.box; have hL3 := blk_below (blk_new wr (Obj.cells #[.slice AN nm.length cN, .bool true, .slice AB bd.length cB] 72)) hb; have m1 := blk_cell hL3 1; clear hp hu hb hL3))
       | ((with_reducible refine gate_dst (N := 56) rfl ?_); go_must (refine gs_append HS3.out (by have := HS2.out; omega) HU.out rfl _ _ rfl rfl _ rfl _ _ rfl (by simp) (by omega) ?_; intro A' c' W4 hbx HN; have z0 := blk_cell hbx 0; have z2 := blk_frozen hbx 0; clear hbx)))
      go_roundg k1
      case measure => omega
      case rel => exact ⟨j + 1, _, _, by first | rfl, ⟨by omega, by omega⟩, HN.out⟩
     | false =>
      obtain rfl := ht2 rfl
      have HU : Aside0 (OV w (tr (trees Rs Ls) (Rs.length + j)) .nilIface) := ⟨by rw [HT.out]; rfl⟩
      clear ht1 ht2
      go_wp2_with (first
       | (go_at_call 90; refine (tree_at w _ ⟨below_alloc HBW.out _⟩ AB cB [] HBD.out y3 hbl).mono ?_; go_must (rintro e W3 hp; obtain ⟨u, b, rfl, hu, hb⟩ := ov_of_post hp; obtain rfl : u = .nilIface := hu; have HS3 := Aside0.mk (HS.out.below (below_then (below_alloc (Below.refl _ _) _) (by simp) hb)); have p0 := blk_cell HS3.out.box 0; have p2 := blk_frozen HS3.out.box 0; have lb3 := blk_lt HS3.out.box; have hL3 := blk_below (blk_new wr (Obj.cells #[.slice AN nm.length cN, .bool false, .slice AB ([] : List Op).length cB] 72)) hb; have m1 := blk_cell hL3 1; clear hp hb hL3))
       | ((with_reducible refine gate_dst (N := 56) rfl ?_); go_must (refine gs_append HS3.out (by have := HS2.out; omega) HU.out rfl _ _ rfl rfl _ rfl _ _ rfl (by simp) (by omega) ?_; intro A' c' W4 hbx HN; have z0 := blk_cell hbx 0; have z2 := blk_frozen hbx 0; clear hbx)))
      go_roundg k1
      case measure => omega
      case rel => exact ⟨j + 1, _, _, by first | rfl, ⟨by omega, by omega⟩, HN.out⟩
end Go.Proofs.Ytdiilocgjnlmiaa.Tre
end
section
namespace Go.Proofs.Ytdiilocgjnlmiaa.Tre
open Go.RowKit Go.Proofs.YtdiilocgjnlmiaaW.PrintWords Go.Proofs.YtdiilocgjnlmiaaW.PrintLast Go.Proofs.YtdiilocgjnlmiaaW.PrintMore
open Go.Proofs.Ytdiilocgjnlmiaa.PAll Go.Maps
set_option linter.unusedVariables false
def MapB (P : Program) (w : World) (K E : TypeId) (b n : Nat) (f : Lit → Bool) : Prop :=
 ∃ D : DataW Unit, w.ownsMap P K (plainElem P E) b n D ∧ IsMap D ∧ ∀ k, WideAt.IsKeyLit k → D.atKey k (.lit (.bool false)) = .lit (.bool (f k))
section
variable {P : Program} {w : World} {K E : TypeId} {b n : Nat} {f : Lit → Bool}
theorem MapB.made (P : Program) (w : World) (K E : TypeId) : MapB P (w.alloc (.map #[] 0)) K E w.heap.size 0 (fun _ => false) :=
 ⟨.map [], World.ownsMap_made w P K _, isMap_empty, fun k _ => rfl⟩
theorem MapB.lt (h : MapB P w K E b n f) : b < w.heap.size := by
 obtain ⟨D, h, _⟩ := h
 exact h.lt
theorem MapB.kept {w' : World} {row : Option Nat} (h : MapB P w K E b n f) (hg : w.grownBy w' row) (hne : some b ≠ row) : MapB P w' K E b n f := by
 obtain ⟨D, h, h2⟩ := h
 exact ⟨D, h.kept hg hne, h2⟩
theorem MapB.alloc (h : MapB P w K E b n f) (o : Obj) : MapB P (w.alloc o) K E b n f := h.kept (World.grownBy_alloc w o none) (by simp)
theorem MapB.step {w' : World} (h : MapB P w K E b n f) (hb : w'.heap[b]? = w.heap[b]?) : MapB P w' K E b n f := by
 obtain ⟨D, ⟨es, clock, h1, h2⟩, h3⟩ := h
 exact ⟨D, ⟨es, clock, hb.trans h1, h2⟩, h3⟩
theorem MapB.drewN (h : MapB P w K E b n f) (k : Nat) : MapB P (w.drewN k) K E b n f := h.step rfl
theorem MapB.below {w' : World} (h : MapB P w K E b n f) (hb : Below w.heap.size w w') : MapB P w' K E b n f := h.step (hb.block b h.lt)
theorem MapB.setCell (h : MapB P w K E b n f) {p : Addr} (hp : b ≠ p.block) (u : Value) : MapB P (w.setCell p u) K E b n f := h.step (Below.heap_setCell _ _ _ _ hp)
theorem MapB.mono (h : MapB P w K E b n f) {m : Nat} (hm : n ≤ m) : MapB P w K E b m f := by
 obtain ⟨D, h, h2⟩ := h
 exact ⟨D, h.mono hm, h2⟩
theorem bool_inv (he : P.underlying E = some .bool) {v : Value} {z : DataW Unit × List MemPlace} (h : plainElem P E v = some z) : ∃ a, v = .bool a ∧ z = (.lit (.bool a), []) := by
 unfold plainElem at h
 rw [he] at h
 cases v <;> simp at h
 exact ⟨_, rfl, h.symm⟩
theorem MapB.look (h : MapB P w K E b n f) (hK : Keyed P K) {t : TypeId} (ht : P.underlying t = some (.map K E)) (he : P.underlying E = some .bool) (hz : (zeroValue E).run P w = .ok (.bool false) w)
 {key : Value} {kl : Lit} (hkey : keyOf P K key = some kl) : (Instr.lookup t (.map (some b)) key false).run P w = .ok (.bool (f kl)) w := by
 obtain ⟨D, h1, h2, h3⟩ := h
 obtain ⟨v, ps, hrun, hv⟩ := h1.lookup hK ht hz (plainElem_bool he false) hkey
 obtain ⟨a, rfl, hz'⟩ := bool_inv he hv
 rw [h3 kl (hK.key hkey)] at hz'
 simp only [Prod.mk.injEq, DataW.lit.injEq, Lit.bool.injEq] at hz'
 rw [hrun, hz'.1]
theorem mapB_look {ops : Array Oper} {rest : List Oper} {o : Oper} {a : Act} {Q : Exit → Act → World → Prop} (h : MapB P w K E b n f) (hK : Keyed P K) (hg : o.guard = none) (m x : Operand) (t : TypeId) (hop : o.op = Op.lookup t m x false)
 (ht : P.underlying t = some (.map K E)) (he : P.underlying E = some .bool) (hz : (zeroValue E).run P w = .ok (.bool false) w)
 (hm : a.eval m = .map (some b)) (key : Value) (hx : a.eval x = key) (kl : Lit) (hkey : keyOf P K key = some kl) (r : Bool) (hr : f kl = r)
 (h' : wpList P ops Q rest (a.put o.dst (.bool r)) w) : wpList P ops Q (o :: rest) a w := by
 refine wpList_plain hg fun K' hK' => ?_
 have hrun := h.look hK ht he hz hkey
 unfold Oper.wp
 simp [execOp, hop, hm, hx, hrun, Result.andThen]
 rw [hr]
 exact hK' _ _ h'
theorem mapB_put {ops : Array Oper} {rest : List Oper} {o : Oper} {a : Act} {Q : Exit → Act → World → Prop} (h : MapB P w K E b n f) (hK : Keyed P K) (hg : o.guard = none) (m x v : Operand) (t : TypeId) (hop : o.op = Op.mapUpdate t m x v)
 (ht : P.underlying t = some (.map K E)) (he : P.underlying E = some .bool) (hm : a.eval m = .map (some b)) (hn : n < maxLen) (key : Value) (hx : a.eval x = key) (hv : a.eval v = .bool true) (kl : Lit) (hkey : keyOf P K key = some kl)
 (f' : Lit → Bool) (hf : ∀ k, f' k = true ↔ k = kl ∨ f k = true)
 (h' : ∀ w', MapB P w' K E b (n + 1) f' → w.grownBy w' (some b) → wpList P ops Q rest (a.put o.dst undef) w') : wpList P ops Q (o :: rest) a w := by
 obtain ⟨D, h1, h2, h3⟩ := h
 refine wpList_mapUpdate_own w hg m x v t hop K E hK ht (plainElem P E) b n D hm h1 hn key _ kl hx hv hkey (.lit (.bool true)) [] (plainElem_bool he true) fun w' g1 g2 => h' w' ⟨_, g1, ?_, fun k hk => ?_⟩ g2
 ·obtain ⟨es, rfl⟩ := h2
  exact ⟨_, rfl⟩
 by_cases e : k = kl
 ·subst e
  rw [atKey_put_same h2 hk, (hf k).2 (Or.inl rfl)]
 rw [atKey_put_other e, h3 k hk]
 congr 2
 rw [Bool.eq_iff_iff, hf k]
 exact ⟨Or.inr, fun h => h.resolve_left e⟩
end
end Go.Proofs.Ytdiilocgjnlmiaa.Tre
end

/- Lemmas of the proof, and the walks of functions that it stands on. -/
import Derived.Test.YtdiilocgjnlmiaaCchLeftRec
import Derived.Lib.BytesEntry
import Derived.Lib.Bytealg
import Derived.Shelf.Abstract
import Derived.Test.YtdiilocgjnlmiaaCchFlat
import Derived.Test.YtdiilocgjnlmiaaCchRegKit
section
namespace Go.Proofs.Ytdiilocgjnlmiaa.Tre
open Go.RowKit Go.Proofs.YtdiilocgjnlmiaaW.PrintWords Go.Proofs.YtdiilocgjnlmiaaW.PrintLast Go.Proofs.YtdiilocgjnlmiaaW.PrintMore
open Go.Proofs.Ytdiilocgjnlmiaa.PAll
set_option linter.unusedVariables false
set_option linter.unusedSimpArgs false
def seaReg.T : Bool × List (List Nat × List Nat) := (true, [([], []), ([], []), ([1], [1]), ([], []), ([2, 3], [2, 3]), ([4], [4]), ([], []), ([], []), ([0, 5, 6, 7], [0, 5, 6, 7])])
def seaReg.B : List Nat := [0, 0, 2, 0, 14, 30, 0, 0, 255]
theorem seaReg.tab : rtab .any (opsOf Try.f130 0) = seaReg.T := by kernel_rfl
theorem seaReg.bits : waitsOk seaReg.T.2 seaReg.B = true := by kernel_rfl
set_option maxRecDepth 100000 in
set_option maxHeartbeats 8000000 in
theorem search_in (U : World) (p : LP) (L : Nat) (m : List Bool) (Ts : List (Option Tr)) (k : Nat) (hG : GrV U p L m Ts) (HV : Aside0 (VisC U p (edges p.R Ts m) k)) : SeaC U p (edges p.R Ts m) k := by
 intro s q w hq hu hL
 obtain ⟨ad, u, hA, hc, hov⟩ := hG.ts.get q (by rw [hG.tl]; exact hq)
 have x0 := pw_cell_below hL.bel hc
 have g0 : w.cell? ⟨p.gb, 0, none⟩ = some (.slice (some ad) p.gn p.gc) := by rw [← hA]; exact blk_cell hL.gbx 0
 have g1 := blk_cell hL.gbx 1
 have m0 := blk_cell hL.mbx 0
 replace g1 : w.cell? ⟨p.gb, 1, none⟩ = some (.int .i64 (p.R : Int)) := g1
 replace m0 : w.cell? ⟨p.mb, 0, none⟩ = some (.slice p.mA p.mn p.mc) := m0
 have hgl : p.gn = p.n := by rw [hG.gl, hG.tl]
 have lx := World.block_lt_of_cell? _ _ x0
 have e2 : (0 ≤ (q : Int)) = True := eq_true (by omega)
 have e3 : ((q : Int) < (p.gn : Int)) = True := eq_true (by omega)
 have HG := Aside0.mk hG
 have HL := Aside0.mk hL
 have HQ := Aside0.mk hq
 have HU := Aside0.mk hu
 have HA := Aside0.mk hA
 have HC := Aside0.mk hc
 have HOV := Aside0.mk hov
 have HB1 : Aside0 (Below w.heap.size w w.drew) := ⟨(Below.refl _ _).drew⟩
 clear hG hq hu hA hc hov hL hgl
 go_enter Try.func130, Try.ntmps130
 go_wp2_with fail
 refine start_ (n := 9) (S := fun W' => W'.cell? ⟨p.gb, 0, none⟩ = some (.slice (some ad) p.gn p.gc) ∧ W'.cell? ⟨p.gb, 1, none⟩ = some (.int .i64 (p.R : Int)) ∧ W'.cell? ⟨p.mb, 0, none⟩ = some (.slice p.mA p.mn p.mc) ∧ W'.cell? (ad.add q) = some u) (ds := []) #[false, false, false, false, false, false, false, false, false] (by kernel_rfl) rfl rfl (⟨g0, g1, m0, x0⟩) (fun hHeld => ?_); refine with_tabW seaReg.tab seaReg.bits (fun HT_ HW_ => ?_)
 refine ta_ 0 8 HT_ HW_ hHeld ?_
 refine pu_ 1 9 HT_ ?_
 refine ta_ 2 10 HT_ HW_ hHeld ?_
 refine pu_ 3 11 HT_ ?_
 refine pu_ 4 12 HT_ ?_
 refine ta_ 5 13 HT_ HW_ hHeld ?_
 refine ta_ 6 14 HT_ HW_ hHeld ?_
 refine pu_ 7 15 HT_ ?_
 refine one_ (i := 8) (N := (some 16)) #[true, true, true, true, true, true, true, true, true] rfl rfl (one_of HT_.out (by kernel_rfl)) (by decide) (fun K hK => ?_)
 refine goes_ Try.func131 (by kernel_rfl) rfl #[.agg #[.slice (some ad) p.gn p.gc, .int .i64 (p.R : Int)], u, .slice p.mA p.mn p.mc, (Value.func (Fn.func 132) #[] #[.pointer (some ⟨p.fb, 0, none⟩), .pointer (some ⟨p.sb, 0, none⟩), .pointer (some ⟨p.sn, 0, none⟩), .pointer (some ⟨p.wb, 0, none⟩)])] (by rfl) rfl rfl (by (try simp only [List.map_toArray, List.map_cons, List.map_nil]); first | rfl) ?_
 rw [HG.out.pm]
 refine (beginsO_in U p p.R L m p.mA p.mc k (edges p.R Ts m) ⟨HG.out.n⟩ HG.out.r HG.out.l ⟨HG.out.ml⟩ ⟨HG.out.edge⟩ ⟨HG.out.mv⟩ HV (some ad) p.gn p.gc (tr Ts q) s _ u HOV.out (HG.out.ok q HQ.out) HU.out (HL.out.below (by repeat (first | exact Below.refl _ _ | apply Below.drew)))).mono ?_
 rintro e W2 hp
 have HP := Aside0.mk hp
 obtain ⟨rfl, hL2, hs2, hk2⟩ := hp
 refine ⟨_, rfl, ?_⟩
 have z0 : W2.cell? ⟨p.gb, 0, none⟩ = some (.slice (some ad) p.gn p.gc) := by rw [← HA.out]; exact blk_cell hL2.gbx 0
 have z1 := blk_cell hL2.gbx 1
 have z2 := blk_cell hL2.mbx 0
 have z3 := pw_cell_below hL2.bel HC.out
 clear hL2 hs2 hk2
 refine hK.out _ _ (⟨z0, z1, z2, z3⟩) (fun hHeld => ?_)
 clear hK K
 refine norm_ (a' := ?_) ?_ ?_
 rotate_left
 ·show Act.put _ (some 16) _ = _; simp only [Act.put, List.setIfInBounds_toArray, List.set_cons_zero, List.set_cons_succ, i64_w, i32_w]; rfl
 refine done_ (done_of HT_.out (by kernel_rfl)) ?_
 go_wp2_with fail
 go_end0
 first | exact HP.out
theorem vis_all (U : World) (p : LP) (L : Nat) (m : List Bool) (Ts : List (Option Tr)) (hG : GrV U p L m Ts) : ∀ k, VisC U p (edges p.R Ts m) k
 | 0 => fun s q w hq hu hL => by
  have h2 : p.n ≤ 200 := by have := hG.n; have := hG.r; have := hG.l; omega
  have h1 : mkd s.2 q = true := uns_zero s.2 (by omega) q (by rw [hL.len]; exact hq)
  rw [dfs_zero h1]
  exact visit_seen U p h2 s q w hq h1 hL
 | k + 1 => fun s q w hq hu hL => by
  have h2 : p.n ≤ 200 := by have := hG.n; have := hG.r; have := hG.l; omega
  cases h1 : mkd s.2 q with
  | true =>
   rw [dfs_zero h1]
   exact visit_seen U p h2 s q w hq h1 hL
  | false =>
   rw [dfs_new h1]
   exact visit_new U p h2 (edges p.R Ts m) k ⟨search_in U p L m Ts k hG ⟨vis_all U p L m Ts hG k⟩⟩ s q w hq h1 hu hL
set_option maxRecDepth 100000 in
set_option maxHeartbeats 8000000 in
theorem leftRec_in (w : World) (A : Option Addr) (c : Nat) (R L : Nat) (m : List Bool) (Am : Option Addr) (cm : Nat) (Ts : List (Option Tr)) (st : Nat) (hT : TsV w A c Ts) (hn : Ts.length = R + L) (hR : R ≤ 100) (hL : L ≤ 100) (hml : m.length = R + L) (hm : MkV w Am cm m) (hok : ∀ i, i < Ts.length → okO R L (tr Ts i)) (hst : st < Ts.length) :
 Calls Try.prog 86 #[.agg #[.slice A Ts.length c, .int .i64 (R : Int)], .int .i64 (st : Int), .slice Am m.length cm] w (BoolPost w (lrec (edges R Ts m) Ts.length st)) := by
 obtain ⟨ii, hi, hz, hs1, hby⟩ := info_parts infoBo
 have hmk := make_one (P := Try.prog) 55 4 Try.underlying55 hi hz hs1 rfl Ts.length (by rw [hby]; decide) (by omega)
 have hst2 := fun (w : World) (a : Addr) (fn : Fn) (f1 c1 : Array Value) => run_store Try.prog w a (.func fn f1 c1) .plain rfl
 obtain ⟨p, hp⟩ : ∃ p : LP, p = ⟨w.heap.size, w.heap.size + 1, w.heap.size + 1 + 1, w.heap.size + 1 + 1 + 1, w.heap.size + 1 + 1 + 1 + 1, w.heap.size + 1 + 1 + 1 + 1 + 1, w.heap.size + 1 + 1 + 1 + 1 + 1 + 1, Ts.length, R, st, A, Ts.length, c, Am, m.length, cm⟩ := ⟨_, rfl⟩
 have hG : GrV w p L m Ts := by
  subst hp
  exact ⟨hn, hR, hL, hml, rfl, rfl, rfl, hm, hT, hok⟩
 have hW : LrW w (((((((w.alloc (Obj.cells #[.slice A Ts.length c, .int .i64 (R : Int)] 116)).alloc (Obj.cells #[.int .i64 (st : Int)] 125)).alloc (Obj.cells #[.slice Am m.length cm] 55)).alloc (Obj.cells (Array.replicate Ts.length (.bool false)) 4)).alloc (Obj.cells #[.slice (some ⟨w.heap.size + 1 + 1 + 1, 0, none⟩) Ts.length Ts.length] 55)).alloc (Obj.cells #[.bool false] 4)).alloc (Obj.cells #[(Value.func (Fn.func 130) #[] #[.pointer (some ⟨w.heap.size, 0, none⟩), .pointer (some ⟨w.heap.size + 1 + 1, 0, none⟩), .pointer (some ⟨w.heap.size + 1 + 1 + 1 + 1 + 1, 0, none⟩), .pointer (some ⟨w.heap.size + 1, 0, none⟩), .pointer (some ⟨w.heap.size + 1 + 1 + 1 + 1, 0, none⟩), .pointer (some ⟨w.heap.size + 1 + 1 + 1 + 1 + 1 + 1, 0, none⟩)])] 186)) p (false, List.replicate Ts.length false) := by
  subst hp
  have k0 := blk_new w (Obj.cells #[.slice A Ts.length c, .int .i64 (R : Int)] 116)
  have k1 := blk_new (w.alloc (Obj.cells #[.slice A Ts.length c, .int .i64 (R : Int)] 116)) (Obj.cells #[.int .i64 (st : Int)] 125)
  rw [World.size_alloc] at k1
  have k2 := blk_new ((w.alloc (Obj.cells #[.slice A Ts.length c, .int .i64 (R : Int)] 116)).alloc (Obj.cells #[.int .i64 (st : Int)] 125)) (Obj.cells #[.slice Am m.length cm] 55)
  rw [World.size_alloc, World.size_alloc] at k2
  have k3 := blk_new (((w.alloc (Obj.cells #[.slice A Ts.length c, .int .i64 (R : Int)] 116)).alloc (Obj.cells #[.int .i64 (st : Int)] 125)).alloc (Obj.cells #[.slice Am m.length cm] 55)) (Obj.cells (Array.replicate Ts.length (.bool false)) 4)
  rw [World.size_alloc, World.size_alloc, World.size_alloc] at k3
  have k4 := blk_new ((((w.alloc (Obj.cells #[.slice A Ts.length c, .int .i64 (R : Int)] 116)).alloc (Obj.cells #[.int .i64 (st : Int)] 125)).alloc (Obj.cells #[.slice Am m.length cm] 55)).alloc (Obj.cells (Array.replicate Ts.length (.bool false)) 4)) (Obj.cells #[.slice (some ⟨w.heap.size + 1 + 1 + 1, 0, none⟩) Ts.length Ts.length] 55)
  rw [World.size_alloc, World.size_alloc, World.size_alloc, World.size_alloc] at k4
  have k5 := blk_new (((((w.alloc (Obj.cells #[.slice A Ts.length c, .int .i64 (R : Int)] 116)).alloc (Obj.cells #[.int .i64 (st : Int)] 125)).alloc (Obj.cells #[.slice Am m.length cm] 55)).alloc (Obj.cells (Array.replicate Ts.length (.bool false)) 4)).alloc (Obj.cells #[.slice (some ⟨w.heap.size + 1 + 1 + 1, 0, none⟩) Ts.length Ts.length] 55)) (Obj.cells #[.bool false] 4)
  rw [World.size_alloc, World.size_alloc, World.size_alloc, World.size_alloc, World.size_alloc] at k5
  have k6 := blk_new ((((((w.alloc (Obj.cells #[.slice A Ts.length c, .int .i64 (R : Int)] 116)).alloc (Obj.cells #[.int .i64 (st : Int)] 125)).alloc (Obj.cells #[.slice Am m.length cm] 55)).alloc (Obj.cells (Array.replicate Ts.length (.bool false)) 4)).alloc (Obj.cells #[.slice (some ⟨w.heap.size + 1 + 1 + 1, 0, none⟩) Ts.length Ts.length] 55)).alloc (Obj.cells #[.bool false] 4)) (Obj.cells #[(Value.func (Fn.func 130) #[] #[.pointer (some ⟨w.heap.size, 0, none⟩), .pointer (some ⟨w.heap.size + 1 + 1, 0, none⟩), .pointer (some ⟨w.heap.size + 1 + 1 + 1 + 1 + 1, 0, none⟩), .pointer (some ⟨w.heap.size + 1, 0, none⟩), .pointer (some ⟨w.heap.size + 1 + 1 + 1 + 1, 0, none⟩), .pointer (some ⟨w.heap.size + 1 + 1 + 1 + 1 + 1 + 1, 0, none⟩)])] 186)
  rw [World.size_alloc, World.size_alloc, World.size_alloc, World.size_alloc, World.size_alloc, World.size_alloc] at k6
  refine ⟨(blk_alloc (blk_alloc (blk_alloc (blk_alloc (blk_alloc (blk_alloc k0 _) _) _) _) _) _), (blk_alloc (blk_alloc (blk_alloc (blk_alloc (blk_alloc k1 _) _) _) _) _), (blk_alloc (blk_alloc (blk_alloc (blk_alloc k2 _) _) _) _), ?_, (blk_alloc (blk_alloc k4 _) _), (blk_alloc k5 _), k6, by simp, by simp, ⟨by simp; omega, by simp; omega⟩, below_alloc (below_alloc (below_alloc (below_alloc (below_alloc (below_alloc (below_alloc (Below.refl _ _) _) _) _) _) _) _) _⟩
  rw [show (boolsV ((false, List.replicate Ts.length false) : Bool × List Bool).2).toArray = Array.replicate Ts.length (.bool false) by simp [boolsV]]
  exact (blk_alloc (blk_alloc (blk_alloc k3 _) _) _)
 have hS := search_in w p L m Ts Ts.length hG ⟨vis_all w p L m Ts hG Ts.length⟩
 have hq : st < p.n := by subst hp; exact hst
 have hu : uns ((false, List.replicate Ts.length false) : Bool × List Bool).2 ≤ Ts.length := by simpa using uns_le (List.replicate Ts.length false)
 have hC := hS (false, List.replicate Ts.length false) st _ hq hu hW
 have HC : Aside0 (Calls Try.prog 130 #[.int .i64 (st : Int), .pointer (some ⟨w.heap.size, 0, none⟩), .pointer (some ⟨w.heap.size + 1 + 1, 0, none⟩), .pointer (some ⟨w.heap.size + 1 + 1 + 1 + 1 + 1, 0, none⟩), .pointer (some ⟨w.heap.size + 1, 0, none⟩), .pointer (some ⟨w.heap.size + 1 + 1 + 1 + 1, 0, none⟩), .pointer (some ⟨w.heap.size + 1 + 1 + 1 + 1 + 1 + 1, 0, none⟩)] (((((((w.alloc (Obj.cells #[.slice A Ts.length c, .int .i64 (R : Int)] 116)).alloc (Obj.cells #[.int .i64 (st : Int)] 125)).alloc (Obj.cells #[.slice Am m.length cm] 55)).alloc (Obj.cells (Array.replicate Ts.length (.bool false)) 4)).alloc (Obj.cells #[.slice (some ⟨w.heap.size + 1 + 1 + 1, 0, none⟩) Ts.length Ts.length] 55)).alloc (Obj.cells #[.bool false] 4)).alloc (Obj.cells #[(Value.func (Fn.func 130) #[] #[.pointer (some ⟨w.heap.size, 0, none⟩), .pointer (some ⟨w.heap.size + 1 + 1, 0, none⟩), .pointer (some ⟨w.heap.size + 1 + 1 + 1 + 1 + 1, 0, none⟩), .pointer (some ⟨w.heap.size + 1, 0, none⟩), .pointer (some ⟨w.heap.size + 1 + 1 + 1 + 1, 0, none⟩), .pointer (some ⟨w.heap.size + 1 + 1 + 1 + 1 + 1 + 1, 0, none⟩)])] 186)) (fun e W8 => e = .returned (.tuple #[]) ∧ (∃ b, b = lrec (edges R Ts m) Ts.length st ∧ W8.heap[w.heap.size + 1 + 1 + 1 + 1 + 1]? = some (.cells #[.bool b] 4 (0, 0))) ∧ Below w.heap.size w W8)) := ⟨by
  subst hp
  exact hC.mono fun e W8 hp => ⟨hp.1, ⟨_, rfl, hp.2.1.fbx⟩, hp.2.1.bel⟩⟩
 clear hC hS hW hG hq hu hT hm hok hi hz hs1 hby hp hml hn
 go_enter Try.func86, Try.ntmps86
 go_wp2_with (first
  | (go_at_call 130; refine (HC.out).mono ?_; go_must (rintro e W8 ⟨rfl, ⟨b, hb, hf⟩, hbl⟩; have y0 := blk_cell hf 0; have y1 := blk_lt hf; have HB := Aside0.mk hb; have HBL := Aside0.mk hbl; clear hb hf hbl)))
 go_ret
 exact ⟨by simp [HB.out], HBL.out⟩
end Go.Proofs.Ytdiilocgjnlmiaa.Tre
end
section
namespace Go.Proofs.Ytdiilocgjnlmiaa.Tre
open Go.RowKit Go.Proofs.YtdiilocgjnlmiaaW.PrintWords Go.Proofs.YtdiilocgjnlmiaaW.PrintLast Go.Proofs.YtdiilocgjnlmiaaW.PrintMore
open Go.Proofs.Ytdiilocgjnlmiaa.PAll
set_option linter.unusedVariables false
theorem run_bytesOf {P : Program} {w : World} {A : Option Addr} {l : List Int} (c : Nat) (hr : Kd.C (Kd.int .u8) w A l.length l) :
 (Extern.Bytes.bytesOf (.slice A l.length c)).run P w = .ok ⟨(Lib.bytesOf l).toArray⟩ w := by
 cases l with
 | nil =>
  cases A with
  | none => simp [Extern.Bytes.bytesOf, Lib.bytesOf, ByteArray.empty, ByteArray.emptyWithCapacity]; rfl
  | some a => simp [Extern.Bytes.bytesOf, Extern.Bytes.loadBytes, Lib.bytesOf, ByteArray.empty, ByteArray.emptyWithCapacity]; rfl
 | cons x l =>
  cases A with
  | none =>
   exfalso
   obtain ⟨ad, c, e, _⟩ := Kd.C_get hr (0 : Int) 0 (by omega) (by simp)
   cases e
  | some a =>
   have h := Lib.run_loadBytesX (P := P) w (x :: l) a .empty (fun j y hj => by
    have hjl : j < (x :: l).length := (List.getElem?_eq_some_iff.1 hj).1
    have := Kd.foot_int hr (j : Int) (by omega) (by omega)
    rw [Int.toNat_natCast] at this
    rw [this]
    simp only [rd, Int.toNat_natCast, List.getD_eq_getElem?_getD, hj, Option.getD_some])
   show (Extern.Bytes.loadBytes a (x :: l).length .empty).run P w = _
   rw [h]
   simp [ByteArray.empty, ByteArray.emptyWithCapacity]
   rfl
theorem compare_neg : ∀ a b : List UInt8, (decide (0 ≤ Lib.compareBytes a b)) = !Op.bytesLess a b
 | [], [] => rfl
 | [], _ :: _ => rfl
 | _ :: _, [] => rfl
 | x :: a, y :: b => by
  unfold Lib.compareBytes Op.bytesLess
  by_cases h1 : x < y
  ·simp [h1]
  rw [if_neg h1]
  by_cases h2 : y < x
  ·rw [if_pos h2]
   have hne : ¬ x = y := fun e => by subst e; exact UInt8.lt_irrefl x h2
   simp [h1, hne]
  rw [if_neg h2, compare_neg a b]
  have he : x = y := UInt8.le_antisymm (UInt8.not_lt.1 h2) (UInt8.not_lt.1 h1)
  subst he
  simp
set_option maxHeartbeats 1000000 in
set_option maxRecDepth 100000 in
theorem compare_calls (w : World) (A B : Option Addr) (l m : List Int) (c d : Nat) (h1 : Kd.C (Kd.int .u8) w A l.length l) (h2 : Kd.C (Kd.int .u8) w B m.length m) :
 Calls Try.prog 55 #[.slice A l.length c, .slice B m.length d] w fun e w' => e = .returned (.int .i64 (Lib.compareBytes (Lib.bytesOf l) (Lib.bytesOf m))) ∧ w' = w := by
 have hrun : (Extern.BytealgCompare.compare #[.slice A l.length c, .slice B m.length d]).run Try.prog w = .ok (.int .i64 (Lib.compareBytes (Lib.bytesOf l) (Lib.bytesOf m))) w := by
  change Sem.run Try.prog (do pure (goInt (Extern.BytealgCompare.cmp (← Extern.Bytes.bytesOf (.slice A l.length c)) (← Extern.Bytes.bytesOf (.slice B m.length d))))) w = _
  simp only [Sem.run_bind, Sem.run_pure, run_bytesOf c h1, run_bytesOf d h2, Result.andThen_ok]
  rw [Lib.cmp_eq]
  rfl
 generalize Lib.compareBytes (Lib.bytesOf l) (Lib.bytesOf m) = r at *
 go_enter Try.func55, Try.ntmps55
 go_wp2
 rw [run_callFunc_extern Try.func108 (by kernel_rfl) (by kernel_rfl) (by kernel_rfl) (e := Extern.BytealgCompare.compare) (by kernel_rfl), hrun]
 simp only [Result.andThen]
 rw [Oper.upon_value]
 go_wp2
 go_ret
 exact ⟨rfl, rfl⟩
end Go.Proofs.Ytdiilocgjnlmiaa.Tre
end

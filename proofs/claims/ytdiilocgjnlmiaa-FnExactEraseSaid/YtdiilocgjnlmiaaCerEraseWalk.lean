import Derived.Test.YtdiilocgjnlmiaaCerCompare
import Derived.Test.YtdiilocgjnlmiaaCerVImpl
import Derived.Deep.RegionHeld3
import Derived.Outline
namespace Go.Proofs.Ytdiilocgjnlmiaa.Tre
open Go.RowKit Go.Proofs.YtdiilocgjnlmiaaW.PrintWords Go.Proofs.YtdiilocgjnlmiaaW.PrintLast Go.Proofs.YtdiilocgjnlmiaaW.PrintMore
open Go.Proofs.Ytdiilocgjnlmiaa.PAll
set_option linter.unusedVariables false
set_option linter.unusedSimpArgs false
def erO (o : Op) : Op := if o.f0 = 3 then ⟨1, [], 0⟩ else o
def erR (r : Ru) : Ru := ⟨r.f0, r.f1.map erO⟩
noncomputable def erG (Rs : List Ru) (Ls : List La) : List Ru := if validB Rs Ls = true then Rs.map erR else []
def ErPost (w : World) (Rs' : List Ru) (e : Ending) (w' : World) : Prop := ∃ v its, e = .returned (.agg #[v, .slice none 0 0]) ∧ RlSt w' w.heap.size v its Rs' ∧ Below w.heap.size w w'
structure ErSt (w W1 W : World) (Rs : List Ru) (v : Value) (its : Nat → It) (i : Nat) : Prop where
  out : W.heap[W1.heap.size]? = some (Obj.cells #[v, .slice none 0 0] 31 (0, 0))
  rl : RlSt W W1.heap.size v its ((Rs.take i).map erR)
  bel : Below W1.heap.size W1 W
structure BdIn (Wa W : World) (bd : List Op) (v : Value) (sv : Nat → Value) (q : Nat) : Prop where
  bd : BdSt W Wa.heap.size v sv ((bd.take q).map erO)
  bel : Below Wa.heap.size Wa W
theorem infoOp : (Try.prog.info? 79).map (fun i => (i.zero, i.size, i.bytes)) = some (some (.agg #[.int .i64 0, .slice none 0 0, .int .i64 0]), 3, 40) := by kernel_rfl
theorem infoRu : (Try.prog.info? 68).map (fun i => (i.zero, i.size, i.bytes)) = some (some (.agg #[.slice none 0 0, .slice none 0 0]), 2, 48) := by kernel_rfl
theorem er_len {bd : List Op} {q : Nat} (h : q < bd.length) : ((bd.take q).map erO).length = q := by simp; omega
theorem own_form1 {W : World} {B : Nat} {t : TypeId} {sz n : Nat} {v : Value} {xs : List Value} (h : W.ownsRow B t sz v n xs) : ∃ A c, v = .slice A n c := by
  rcases h.2 with ⟨rfl, rfl⟩ | ⟨g, cap, cur, rfl, _⟩
  · exact ⟨_, _, rfl⟩
  · exact ⟨_, _, rfl⟩
theorem nilC (w : World) : Kd.C (Kd.int .i64) w none ([] : List Int).length [] := ⟨rfl, by simp, fun h => by simp at h⟩
theorem er_below {Wa wo W2 : World} {bd : List Op} {bv : Value} {sv : Nat → Value} {q : Nat} {ob : Obj} (h : BdIn Wa wo bd bv sv q) (hb : Below (wo.alloc ob).heap.size (wo.alloc ob) W2) (u : Value) (ob2 : Obj) : Below wo.heap.size wo ((W2.setCell ⟨wo.heap.size, 1, none⟩ u).alloc ob2) := by
  have h1 : Below wo.heap.size wo (wo.alloc ob) := below_alloc (Below.refl _ _) _
  have h2 : Below wo.heap.size wo W2 := below_then h1 h1.size hb
  exact below_alloc (h2.setCell (by simp) u) _
theorem er_own {Wa wo W2 : World} {bd : List Op} {bv : Value} {sv : Nat → Value} {q : Nat} {ob : Obj} (h : BdIn Wa wo bd bv sv q) (hb : Below (wo.alloc ob).heap.size (wo.alloc ob) W2) (u : Value) (ob2 : Obj) :
    ((W2.setCell ⟨wo.heap.size, 1, none⟩ u).alloc ob2).ownsRow Wa.heap.size 79 3 bv ((bd.take q).map erO).length (lineC (bdCell sv ((bd.take q).map erO)) ((bd.take q).map erO).length) := (h.bd.below (er_below h hb u ob2)).row
theorem er_size {Wa wo W2 : World} {bd : List Op} {bv : Value} {sv : Nat → Value} {q : Nat} {ob : Obj} (h : BdIn Wa wo bd bv sv q) (hb : Below (wo.alloc ob).heap.size (wo.alloc ob) W2) (u : Value) (ob2 : Obj) : Wa.heap.size ≤ ((W2.setCell ⟨wo.heap.size, 1, none⟩ u).alloc ob2).heap.size := Nat.le_trans h.bel.size (er_below h hb u ob2).size
theorem src_three (W : World) (cs : List Value) (ob : Obj) (m : Nat) {t : TypeId} (hob : ob = .cells cs.toArray t) (hm : m = W.heap.size) : SrcN (W.alloc ob) (some ⟨m, 0, none⟩) cs := by
  subst hob hm
  intro j u hu
  refine ⟨_, rfl, ?_⟩
  have hadd : (⟨W.heap.size, 0, none⟩ : Addr).add j = ⟨W.heap.size, j, none⟩ := by unfold Addr.add; split <;> simp_all
  rw [hadd]
  exact cell_new W _ _ j u (by simpa using hu)
theorem three_one (a : Int) (A : Option Addr) (n c : Nat) (b : Int) : ∀ u ∈ [Value.int .i64 a, .slice A n c, .int .i64 b], u.oneCell' = true := by
  intro u hu
  simp only [List.mem_cons, List.not_mem_nil, or_false] at hu
  rcases hu with rfl | rfl | rfl <;> rfl
theorem er_next {Wa wo W2 W4 : World} {bd : List Op} {bv v' s : Value} {sv : Nat → Value} {q : Nat} {ob ob2 : Obj} (h : BdIn Wa wo bd bv sv q) (hq : q < bd.length) (o : Op) (ho : erO (opn bd q) = o) (hb : Below (wo.alloc ob).heap.size (wo.alloc ob) W2) (hs : W2.ownsRow (wo.alloc ob).heap.size 3 1 s o.f1.length (nums .i64 o.f1))
    (h4 : W4.ownsRow Wa.heap.size 79 3 v' (((bd.take q).map erO).length + 1) (lineC (bdCell sv ((bd.take q).map erO)) ((bd.take q).map erO).length ++ [.int .i64 o.f0, s, .int .i64 o.f2])) (hg : ((W2.setCell ⟨wo.heap.size, 1, none⟩ s).alloc ob2).grownBy W4 bv.ownBlock) : BdIn Wa W4 bd v' (putF sv q s) (q + 1) := by
  have hsz : (wo.alloc ob).heap.size = wo.heap.size + 1 := World.size_alloc _ _
  have hb3 := er_below h hb s ob2
  have hs3 : ((W2.setCell ⟨wo.heap.size, 1, none⟩ s).alloc ob2).ownsRow wo.heap.size 3 1 s o.f1.length (nums .i64 o.f1) :=
    own_lower' ((ownsRow_setCell_below hs (a := ⟨wo.heap.size, 1, none⟩) (by rw [hsz]; exact Nat.lt_succ_self _) s).alloc _) (by omega)
  have hn := BdSt.snoc (o := o) h.bd h.bel.size hb3 hs3 h4 hg
  have e : (bd.take (q + 1)).map erO = (bd.take q).map erO ++ [o] := by
    rw [List.take_succ_eq_append_getElem hq, List.map_append, ← ho, opn, rd_Op hq]; rfl
  have hbW := below_then h.bel h.bel.size hb3
  refine ⟨?_, hbW.grown hg hbW.size fun k hk => (h.bd.row.lt k hk).1⟩
  rw [e]
  rw [er_len hq] at hn
  exact hn
theorem step_append_src {P : Program} {ops : Array Oper} {o : Oper} {a : Act} {w : World} {K : Act → World → Prop} {Q : Exit → Act → World → Prop} {E : Prop}
    (hg : o.guard = none) (s x : Operand) (t : TypeId) (hop : o.op = Op.call { callee := Callee.builtin Builtin.append, args := #[s, x], argTypes := #[t, t] })
    (base : Nat) (e : TypeId) (i : TypeInfo) (z : Value) (size bytes : Nat) (ht : P.underlying t = some (.slice e)) (hi : P.info? e = some i) (hz : i.zero = some z) (hsize : i.size = size) (hby : i.bytes = bytes) (hzs : z.cells.size = size) (hsz : 0 < size)
    (v : Value) (n : Nat) (xs : List Value) (hown : w.ownsRow base e size v n xs) (hs : a.eval s = v)
    (A : Option Addr) (m c : Nat) (news : List Value) (hx : a.eval x = .slice A m c) (hl : news.length = m * size) (hnews : SrcN w A news) (h1 : ∀ u ∈ news, u.oneCell' = true)
    (h63 : n + m ≤ maxLen) (hbytes : (n + m) * bytes ≤ 140737488355328) (hbase : base ≤ w.heap.size)
    (hK : ∀ v' w', w'.ownsRow base e size v' (n + m) (xs ++ news) → w.grownBy w' v.ownBlock → K (a.put o.dst v') w') :
    if Region.wanted o (yielded ops a.tmps) = true then Oper.wp P o a w K Q else E := by
  have hw : Region.wanted o (yielded ops a.tmps) = true := by simp [Region.wanted, hg]
  rw [if_pos hw]
  obtain ⟨v', w', hrun, r1, r2⟩ := run_append_src (P := P) w base t o.type e i z size bytes ht hi hz hsize hby hzs hsz v n xs hown A m c news hl hnews h1 h63 hbytes hbase
  unfold Oper.wp
  simp [execOp, hop, resolve, invoke, builtin, hs, hx, hrun, Result.andThen]
  exact hK v' w' r1 r2
theorem own_box {W : World} {B : Nat} {t t' : TypeId} {sz : Nat} {v : Value} {n : Nat} {xs : List Value} {k : Nat} {cs : Array Value} (h : W.ownsRow B t sz v n xs) (hb : W.heap[k]? = some (.cells cs t' (0, 0))) (hne : t ≠ t') : some k ≠ v.ownBlock := by
  intro e
  obtain ⟨c1, h1⟩ := own_typed h k e.symm
  rw [hb] at h1
  simp only [Option.some.injEq, Obj.cells.injEq] at h1
  exact hne h1.2.1.symm
theorem own_set {W : World} {B : Nat} {t t' : TypeId} {sz : Nat} {v : Value} {n : Nat} {xs : List Value} {k : Nat} {cs : Array Value} (h : W.ownsRow B t sz v n xs) (hb : W.heap[k]? = some (.cells cs t' (0, 0))) (hne : t ≠ t') (i : Nat) (u : Value) : (W.setCell ⟨k, i, none⟩ u).ownsRow B t sz v n xs :=
  own_move h fun j hj => Below.heap_setCell _ _ _ _ (fun e => own_box h hb hne (by rw [hj]; exact congrArg some e.symm))
theorem RlSt.lower {W : World} {B B' : Nat} {v : Value} {its : Nat → It} {Rs : List Ru} (h : RlSt W B v its Rs) (hb : B' ≤ B) : RlSt W B' v its Rs :=
  ⟨own_lower' h.row hb, fun j hj => (h.items j hj).lower hb, h.apart⟩
theorem RlSt.setAt {W : World} {B : Nat} {v : Value} {its : Nat → It} {Rs : List Ru} {k : Nat} {cs : Array Value} {t : TypeId} (h : RlSt W B v its Rs) (hb : W.heap[k]? = some (.cells cs t (0, 0))) (hne : 68 ≠ t ∧ 5 ≠ t ∧ 79 ≠ t ∧ 3 ≠ t) (i : Nat) (u : Value) : RlSt (W.setCell ⟨k, i, none⟩ u) B v its Rs :=
  ⟨own_set h.row hb hne.1 i u, fun j hj => ⟨(h.items j hj).ln, (h.items j hj).bn, (h.items j hj).m, own_set (h.items j hj).name hb hne.2.1 i u, ⟨own_set (h.items j hj).body.row hb hne.2.2.1 i u, fun q hq => own_set ((h.items j hj).body.sets q hq) hb hne.2.2.2 i u, (h.items j hj).body.apart⟩⟩, h.apart⟩
def itOf (s bv : Value) (sv : Nat → Value) (nm : List Int) (bd : List Op) : It := ⟨s, nm.length, bv, bd.length, sv, fun q => (opn bd q).f1.length⟩
theorem er_lenR {Rs : List Ru} {i : Nat} (h : i < Rs.length) : ((Rs.take i).map erR).length = i := by simp; omega
theorem er_boxR {w W1 wr W3 W4 : World} {Rs : List Ru} {v : Value} {its : Nat → It} {i : Nat} (h : ErSt w W1 wr Rs v its i) (hb : Below wr.heap.size wr W3) (hg : W3.grownBy W4 v.ownBlock) : W4.heap[W1.heap.size]? = some (Obj.cells #[v, .slice none 0 0] 31 (0, 0)) := by
  have h3 := blk_below h.out hb
  exact blk_grown h3 hg (own_box (h.rl.below hb).row h3 (by decide))
theorem er_ownR {w W1 wr W3 : World} {Rs : List Ru} {v : Value} {its : Nat → It} {i : Nat} (h : ErSt w W1 wr Rs v its i) (hb : Below wr.heap.size wr W3) :
    W3.ownsRow W1.heap.size 68 2 v ((Rs.take i).map erR).length (lineC (ruCell its) ((Rs.take i).map erR).length) := (h.rl.below hb).row
theorem er_sizeR {w W1 wr W3 : World} {Rs : List Ru} {v : Value} {its : Nat → It} {i : Nat} (h : ErSt w W1 wr Rs v its i) (hb : Below wr.heap.size wr W3) : W1.heap.size ≤ W3.heap.size := Nat.le_trans h.bel.size hb.size
theorem two_one (A B : Option Addr) (n c m d : Nat) : ∀ u ∈ [Value.slice A n c, .slice B m d], u.oneCell' = true := by
  intro u hu
  simp only [List.mem_cons, List.not_mem_nil, or_false] at hu
  rcases hu with rfl | rfl <;> rfl
theorem er_itemR {wr Wa wo W2 W3 : World} {bd : List Op} {nm : List Int} {bv s : Value} {sv : Nat → Value} {B : Nat} (hba : Below wr.heap.size wr Wa) (h : BdIn Wa wo bd bv sv bd.length) (hB : wo.heap.size ≤ B) (hb2 : Below wo.heap.size wo W2) (hs : W2.ownsRow B 5 1 s nm.length (nums .u8 nm)) (hb3 : Below W2.heap.size W2 W3) :
    ItSt W3 wr.heap.size (itOf s bv sv nm (bd.map erO)) nm (bd.map erO) := by
  have h0 : wr.heap.size ≤ B := Nat.le_trans hba.size (Nat.le_trans h.bel.size hB)
  have e : (bd.take bd.length).map erO = bd.map erO := by rw [List.take_length]
  have hbd := h.bd
  rw [e] at hbd
  have hbd3 := (hbd.below hb2).below hb3
  refine ⟨rfl, rfl, fun q => rfl, own_lower' (own_same hs fun b _ hl => hb3.block b hl) h0, ⟨own_lower' hbd3.row hba.size, fun q hq => own_lower' (hbd3.sets q hq) hba.size, hbd3.apart⟩⟩
theorem er_nextR {w W1 wr W3 W4 W5 : World} {Rs : List Ru} {v v' : Value} {its : Nat → It} {i : Nat} {nm : List Int} {bd : List Op} {t : It} (h : ErSt w W1 wr Rs v its i) (hi : i < Rs.length) (hw : w.heap.size ≤ W1.heap.size) (hru : ru Rs i = ⟨nm, bd⟩) (htk : Rs.take (i + 1) = Rs.take i ++ [ru Rs i]) (hb : Below wr.heap.size wr W3) (ht : ItSt W3 wr.heap.size t nm (bd.map erO))
    (h4 : W4.ownsRow W1.heap.size 68 2 v' (i + 1) (lineC (ruCell its) i ++ [t.nm, t.bv])) (hg : W3.grownBy W4 v.ownBlock) (h5 : Below W4.heap.size W4 W5) : ErSt w W1 (W5.setCell ⟨W1.heap.size, 0, none⟩ v') Rs v' (putF its i t) (i + 1) := by
  have hn := RlSt.snoc (r := ⟨nm, bd.map erO⟩) h.rl h.bel.size hb ht (by rw [er_lenR hi]; exact h4) hg
  have e : (Rs.take (i + 1)).map erR = (Rs.take i).map erR ++ [⟨nm, bd.map erO⟩] := by rw [htk, List.map_append, hru]; rfl
  have hbx := blk_below (er_boxR h hb hg) h5
  have hb4 := (below_then h.bel h.bel.size hb).grown hg (er_sizeR h hb) fun k hk => (h.rl.row.lt k hk).1
  have hb5 := below_then hb4 (Nat.le_trans (er_sizeR h hb) hg.size) h5
  rw [er_lenR hi] at hn
  refine ⟨blk_put hbx 0 v' rfl, ?_, hb5.setCell (Nat.le_refl _) _⟩
  rw [e]
  have hn5 := hn.below h5
  exact hn5.setAt hbx (by decide) 0 v'
set_option maxRecDepth 100000 in
set_option maxHeartbeats 8000000 in
theorem erase_in (w : World) (A0 A1 : Option Addr) (c0 c1 : Nat) (Rs : List Ru) (Ls : List La) (hr0 : Kd.C k68 w A0 Rs.length Rs) (hc0 : Rs.length ≤ c0) (hr1 : Kd.C k72 w A1 Ls.length Ls) (hc1 : Ls.length ≤ c1) (hok : okG Rs Ls = true) :
    Calls Try.prog 28 #[.agg #[.slice A0 Rs.length c0, .slice A1 Ls.length c1]] w (ErPost w (erG Rs Ls)) := by
  have hw0 : Below w.heap.size w ((w.alloc (Obj.cells #[.slice A0 Rs.length c0, .slice A1 Ls.length c1] 31)).alloc (Obj.cells #[.slice none 0 0, .slice none 0 0] 31)) := below_alloc (below_alloc (Below.refl _ _) _) _
  have hR0 := Kd.C_below hr0 hw0
  have hL0 := Kd.C_below hr1 hw0
  have bg0 : ((w.alloc (Obj.cells #[.slice A0 Rs.length c0, .slice A1 Ls.length c1] 31)).alloc (Obj.cells #[.slice none 0 0, .slice none 0 0] 31)).heap[w.heap.size]? = some (Obj.cells #[.slice A0 Rs.length c0, .slice A1 Ls.length c1] 31) := blk_alloc (blk_new w _) _
  have br0 : ((w.alloc (Obj.cells #[.slice A0 Rs.length c0, .slice A1 Ls.length c1] 31)).alloc (Obj.cells #[.slice none 0 0, .slice none 0 0] 31)).heap[w.heap.size + 1]? = some (Obj.cells #[.slice none 0 0, .slice none 0 0] 31) := by
    have := blk_new (w.alloc (Obj.cells #[.slice A0 Rs.length c0, .slice A1 Ls.length c1] 31)) (Obj.cells #[.slice none 0 0, .slice none 0 0] 31)
    simp only [World.size_alloc] at this
    exact this
  have HOK := Aside0.mk hok
  have hRl := okG_R hok
  have hLl := okG_L hok
  have HW0 := Aside0.mk hw0
  have HR0 := Aside0.mk hR0
  have HL0 := Aside0.mk hL0
  have HBG := Aside0.mk bg0
  have HBR := Aside0.mk br0
  clear hok hw0 hR0 hL0 hr0 hr1 bg0 br0
  cases hvb : validB Rs Ls
  · have HVB := Lib.hid hvb
    clear hvb
    go_enter Try.func28, Try.ntmps28
    go_wp2_with (first
      | (go_at_call 13; go_must (refine (valid_in _ A0 A1 c0 c1 Rs Ls HR0.out hc0 HL0.out hc1 HOK.out).mono ?_; rintro e W1 ⟨rfl, hb⟩; rw [HVB.out]; have br1 := blk_below HBR.out hb; have p0 := blk_cell br1 0; have p1 := blk_cell br1 1; have p2 := blk_frozen br1 0; have p3 := blk_frozen br1 1; have BR1 := Aside0.mk br1; have HB := Aside0.mk hb; clear br1 hb)))
    have hnil : erG Rs Ls = [] := by unfold erG; rw [HVB.out]; rfl
    rw [hnil]
    refine bodyPost_ret (results_cell_row rfl _ _ (w.heap.size + 1) 31 #[.slice none 0 0, .slice none 0 0] (0, 0) _ rfl (blk_put (cs := #[.slice none 0 0, .slice none 0 0]) (blk_put (cs := #[.slice none 0 0, .slice none 0 0]) BR1.out 0 _ rfl) 1 _ rfl) Try.underlying31 rfl (by kernel_rfl)) rfl ?_
    exact ⟨_, fun _ => default, rfl, RlSt.nil _ _ _, ((below_then HW0.out HW0.out.size HB.out).setCell (by simp) _).setCell (by simp) _⟩
  · have HVB := Lib.hid hvb
    clear hvb
    obtain ⟨i79, hi79, hz79, hs79, hb79⟩ := info_parts infoOp
    obtain ⟨i68, hi68, hz68, hs68, hb68⟩ := info_parts infoRu
    go_enter Try.func28, Try.ntmps28
    go_wp2_with (first
      | (go_at_call 13; go_must (refine (valid_in _ A0 A1 c0 c1 Rs Ls HR0.out hc0 HL0.out hc1 HOK.out).mono ?_; rintro e W1 ⟨rfl, hb⟩; rw [HVB.out]; have bg1 := blk_below HBG.out hb; have br1 := blk_below HBR.out hb; have pg0 := blk_cell bg1 0; have pg1 := blk_cell bg1 1; have BG1 := Aside0.mk bg1; have BR1 := Aside0.mk br1; have HB := Aside0.mk hb; have lg := blk_lt bg1; have lr := blk_lt br1; clear br1 bg1 hb)))
    have hS0 : ErSt w W1 (W1.alloc (Obj.cells #[.slice none 0 0, .slice none 0 0] 31)) Rs (.slice none 0 0) (fun _ => default) 0 := ⟨blk_new _ _, RlSt.nil _ _ _, below_alloc (Below.refl _ _) _⟩
    have HR1 := Aside0.mk (Kd.C_below HR0.out HB.out)
    go_loopg [16] (Rs.length + 1) (fun kq v16 W' => ∃ (i : Nat) (v : Value) (its : Nat → It), v16 = .int .i64 (i : Int) ∧ Aside0 (i ≤ Rs.length ∧ Rs.length < i + kq) ∧ ErSt w W1 W' Rs v its i)
    case atStart => exact ⟨0, _, _, rfl, ⟨by omega, by omega⟩, hS0⟩
    case round =>
      clear hS0
      obtain ⟨i, v, its, rfl, HI, hS⟩ := hrel
      obtain ⟨i1, i2⟩ := HI.out
      clear HI
      cases gk with
      | zero => omega
      | succ k1 =>
        by_cases hi : i < Rs.length
        · have d1 : decide ((i : Int) < (Rs.length : Int)) = true := decide_eq_true (by omega)
          obtain ⟨ad, AN, cN, AB, cB, rfl, x0, x1, y1, y2, y3, y4⟩ := at_T68 HR1.out (i : Int) (by omega) (by omega)
          rw [Int.toNat_natCast] at x0 x1
          replace x0 := pw_cell_below hS.bel x0
          replace x1 := pw_cell_below hS.bel x1
          have e2 : (0 ≤ (i : Int)) = True := eq_true (by omega)
          have e3 : ((i : Int) < (Rs.length : Int)) = True := eq_true (by omega)
          obtain ⟨ok1, ok2⟩ := okG_ru HOK.out hi
          have HS1 := Aside0.mk (take_ru hi)
          change (rd_T68 Rs (i : Int)).f0.length ≤ _ at ok1
          change okOps (rd_T68 Rs (i : Int)).f1 = true at ok2
          generalize hru : rd_T68 Rs (i : Int) = r at *
          obtain ⟨nm, bd⟩ := r
          change ru Rs i = _ at hru
          simp only at x0 x1 y1 y2 y3 y4 ok1 ok2
          have HRU := Aside0.mk hru
          have hbl := okOps_len ok2
          have hbs := Aside0.mk (okOps_set ok2)
          have HNM := Aside0.mk (Kd.C_below y2 hS.bel)
          have HBD := Aside0.mk (Kd.C_alloc (Kd.C_below y4 hS.bel) (.cells #[.slice AN nm.length cN, .slice AB bd.length cB] 68))
          clear hru ok2 y2 y4
          go_wp2
          have hBd0 : BdIn (wr.alloc (Obj.cells #[.slice AN nm.length cN, .slice AB bd.length cB] 68)) (wr.alloc (Obj.cells #[.slice AN nm.length cN, .slice AB bd.length cB] 68)) bd (.slice none 0 0) (fun _ => undef) 0 := ⟨BdSt.nil _ _ _, Below.refl _ _⟩
          have hrb := blk_new wr (Obj.cells #[.slice AN nm.length cN, .slice AB bd.length cB] 68)
          have hba : Below wr.heap.size wr (wr.alloc (Obj.cells #[.slice AN nm.length cN, .slice AB bd.length cB] 68)) := below_alloc (Below.refl _ _) _
          have hsz : (wr.alloc (Obj.cells #[.slice AN nm.length cN, .slice AB bd.length cB] 68)).heap.size = wr.heap.size + 1 := World.size_alloc _ _
          generalize hWa : wr.alloc (Obj.cells #[.slice AN nm.length cN, .slice AB bd.length cB] 68) = Wa at *
          clear hWa x0 x1
          have HRB := Aside0.mk hrb
          have HBA := Aside0.mk hba
          have HSZ := Aside0.mk hsz
          clear hrb hba hsz
          go_loopg [6, 23] (bd.length + 1) (fun kq v6 v23 W' => ∃ (q : Nat) (bv : Value) (sv : Nat → Value), v6 = bv ∧ v23 = .int .i64 (q : Int) ∧ Aside0 (q ≤ bd.length ∧ bd.length < q + kq) ∧ BdIn Wa W' bd bv sv q)
          case atStart => exact ⟨0, _, _, rfl, rfl, ⟨by omega, by omega⟩, hBd0⟩
          case round =>
            clear hBd0
            obtain ⟨wo, rfl⟩ : ∃ wo : World, wo = wr := ⟨_, rfl⟩
            obtain ⟨q, bv, sv, rfl, rfl, HQ, hBd⟩ := hrel
            obtain ⟨q1, q2⟩ := HQ.out
            clear HQ
            cases gk with
            | zero => omega
            | succ k2 =>
              by_cases hq : q < bd.length
              · have f1 : decide ((q : Int) < (bd.length : Int)) = true := decide_eq_true (by omega)
                obtain ⟨ab, AS, cS, rfl, z0, z1, z2, z3, z4⟩ := at_T79 HBD.out (q : Int) (by omega) (by omega)
                rw [Int.toNat_natCast] at z0 z1 z2
                replace z0 := pw_cell_below hBd.bel z0
                replace z1 := pw_cell_below hBd.bel z1
                replace z2 := pw_cell_below hBd.bel z2
                have f2 : (0 ≤ (q : Int)) = True := eq_true (by omega)
                have f3 : ((q : Int) < (bd.length : Int)) = True := eq_true (by omega)
                have hsl := hbs.out (rd_T79 bd (q : Int)) (by rw [rd_Op hq]; exact List.getElem_mem hq)
                have HBD0 := Aside0.mk hBd
                have HOP := Aside0.mk (show ∀ x, rd_T79 bd (q : Int) = x → opn bd q = x from fun x h => h)
                generalize hoo : rd_T79 bd (q : Int) = o at z0 z1 z2 z3 z4 hsl
                obtain ⟨k, s, n⟩ := o
                have hop2 := HOP.out _ hoo
                clear HOP hoo
                simp only at z0 z1 z2 z3 z4 hsl
                have HZ := Aside0.mk (Kd.C_below z4 hBd.bel)
                clear z4 hBd
                by_cases hk : k = 3
                · subst hk
                  have HER : Aside0 (erO (opn bd q) = ⟨1, [], 0⟩) := ⟨by rw [hop2]; rfl⟩
                  clear hop2
                  go_wp2_with (first
                    | (go_at_call 73; go_must (refine (cloneI_in _ none 0 [] (nilC _) (by simp)).mono ?_; rintro e W2 ⟨s1, rfl, ho, hb⟩; obtain ⟨A1', c1', rfl⟩ := own_form1 ho; have t0 := pw_cell_below hb (cell_new wo _ 79 0 _ rfl); have t1 := pw_cell_below hb (cell_new wo _ 79 1 _ rfl); have t2 := pw_cell_below hb (cell_new wo _ 79 2 _ rfl); have t3 := blk_frozen (blk_below (blk_new wo _) hb) 1; have lob := blk_lt (blk_below (blk_new wo _) hb); have HO := Aside0.mk ho; have HB2 := Aside0.mk hb; clear ho hb))
                    | ((with_reducible refine gate_dst (N := 38) rfl ?_); go_must (refine app_src _ Wa.heap.size 66 79 i79 _ 3 40 Try.underlying66 hi79 hz79 hs79 hb79 rfl (by decide) _ _ _ (er_own HBD0.out HB2.out _ _) rfl _ _ rfl rfl _ 1 _ [.int .i64 (⟨1, [], 0⟩ : Op).f0, .slice A1' _ c1', .int .i64 (⟨1, [], 0⟩ : Op).f2] rfl rfl (src_three _ _ _ _ (t := 79) rfl (by simp)) (three_one _ _ _ _ _) (by rw [er_len hq]; unfold maxLen; omega) (by rw [er_len hq]; omega) (er_size HBD0.out HB2.out _ _) ?_; intro v' W4 ho4 hg4; have HN := Aside0.mk (er_next HBD0.out hq (⟨1, [], 0⟩ : Op) HER.out HB2.out HO.out ho4 hg4); clear ho4 hg4)))
                  go_roundg k2
                  case measure => omega
                  case rel => exact ⟨q + 1, _, _, rfl, by first | rfl | (simp; done) | (rw [wid (by omega) (by omega)]; simp), ⟨by omega, by omega⟩, HN.out⟩
                · have fk : (k == 3) = false := by simpa using hk
                  have HER : Aside0 (erO (opn bd q) = ⟨k, s, n⟩) := ⟨by rw [hop2]; unfold erO; rw [if_neg hk]⟩
                  clear hop2 hk
                  go_wp2_with (first
                    | (go_at_call 73; go_must (refine (cloneI_in _ AS cS s (Kd.C_alloc HZ.out _) hsl).mono ?_; rintro e W2 ⟨s1, rfl, ho, hb⟩; obtain ⟨A1', c1', rfl⟩ := own_form1 ho; have t0 := pw_cell_below hb (cell_new wo _ 79 0 _ rfl); have t1 := pw_cell_below hb (cell_new wo _ 79 1 _ rfl); have t2 := pw_cell_below hb (cell_new wo _ 79 2 _ rfl); have t3 := blk_frozen (blk_below (blk_new wo _) hb) 1; have lob := blk_lt (blk_below (blk_new wo _) hb); have HO := Aside0.mk ho; have HB2 := Aside0.mk hb; clear ho hb))
                    | ((with_reducible refine gate_dst (N := 38) rfl ?_); go_must (refine app_src _ Wa.heap.size 66 79 i79 _ 3 40 Try.underlying66 hi79 hz79 hs79 hb79 rfl (by decide) _ _ _ (er_own HBD0.out HB2.out _ _) rfl _ _ rfl rfl _ 1 _ [.int .i64 (⟨k, s, n⟩ : Op).f0, .slice A1' _ c1', .int .i64 (⟨k, s, n⟩ : Op).f2] rfl rfl (src_three _ _ _ _ (t := 79) rfl (by simp)) (three_one _ _ _ _ _) (by rw [er_len hq]; unfold maxLen; omega) (by rw [er_len hq]; omega) (er_size HBD0.out HB2.out _ _) ?_; intro v' W4 ho4 hg4; have HN := Aside0.mk (er_next HBD0.out hq (⟨k, s, n⟩ : Op) HER.out HB2.out HO.out ho4 hg4); clear ho4 hg4)))
                  go_roundg k2
                  case measure => omega
                  case rel => exact ⟨q + 1, _, _, rfl, by first | rfl | (simp; done) | (rw [wid (by omega) (by omega)]; simp), ⟨by omega, by omega⟩, HN.out⟩
              · have f1 : decide ((q : Int) < (bd.length : Int)) = false := decide_eq_false (by omega)
                have f4 : ¬ q < bd.length := hq
                have hqe : q = bd.length := by omega
                subst hqe
                have HBDX := Aside0.mk hBd
                have hBW := below_then HBA.out HBA.out.size hBd.bel
                have pb0 := blk_cell (blk_below hS.out hBW) 0
                have pn0 := pw_cell_below hBd.bel (blk_cell HRB.out 0)
                have HBW := Aside0.mk hBW
                have HSR := Aside0.mk hS
                have lbx : W1.heap.size < wo.heap.size := Nat.lt_of_lt_of_le (blk_lt hS.out) hBW.size
                have hwW1 : w.heap.size ≤ W1.heap.size := by omega
                obtain ⟨Ab, cb, rfl⟩ : ∃ A c, u6 = .slice A bd.length c := by
                  obtain ⟨A, c, h⟩ := own_form1 hBd.bd.row
                  exact ⟨A, c, by rw [h]; simp⟩
                clear hBd hBW hS
                go_wp2
                go_region_law (first
                  | (go_simp; go_at_call 74; go_must (refine (cloneB_in _ AN cN nm (Kd.C_below HNM.out (by first | exact HBW.out | exact HBW.out.drew | exact HBW.out.drew.drew | exact HBW.out.drew.drew.drew)) ok1).mono ?_; rintro e W2 ⟨s1, rfl, ho, hb⟩; obtain ⟨A2', c2', rfl⟩ := own_form1 ho; have pb2 := pw_cell_below hb pb0; have lb2 : W1.heap.size < W2.heap.size := Nat.lt_of_lt_of_le lbx hb.size; have HB0 : Aside0 (Below wo.heap.size wo W2) := ⟨(by first | exact below_then (Below.refl _ _) (Nat.le_refl _) hb | exact below_then (Below.refl _ _).drew (Nat.le_refl _) hb | exact below_then (Below.refl _ _).drew.drew (Nat.le_refl _) hb | exact below_then (Below.refl _ _).drew.drew.drew (Nat.le_refl _) hb)⟩; have HO : Aside0 (W2.ownsRow wo.heap.size 5 1 (.slice A2' nm.length c2') nm.length (nums .u8 nm)) := ⟨ho⟩; have HBR2 := Aside0.mk (below_then HBW.out HBW.out.size HB0.out); clear ho hb))
                  | (go_must (refine step_append_src rfl (.tmp 41) (.tmp 47) 28 rfl W1.heap.size 68 i68 _ 2 48 Try.underlying28 hi68 hz68 hs68 hb68 rfl (by decide) v _ _ (er_ownR HSR.out (by repeat (first | exact HBR2.out | apply Below.drew | apply below_alloc))) rfl _ 1 _ [.slice A2' nm.length c2', .slice Ab bd.length cb] rfl rfl (src_three _ _ _ _ (t := 68) rfl (by first | rfl | simp)) (two_one _ _ _ _ _ _) (by rw [er_lenR hi]; unfold maxLen; omega) (by rw [er_lenR hi]; omega) (er_sizeR HSR.out (by repeat (first | exact HBR2.out | apply Below.drew | apply below_alloc))) ?_; intro v' W4 ho4 hg4; rw [er_lenR hi] at ho4; obtain ⟨A4, c4, rfl⟩ := own_form1 ho4; have hbx4 := er_boxR HSR.out (by repeat (first | exact HBR2.out | apply Below.drew | apply below_alloc)) hg4; have q0 := blk_cell hbx4 0; have q2 := blk_frozen hbx4 0; have HNX := Aside0.mk (fun W5 h5 => er_nextR (W5 := W5) (t := itOf (.slice A2' nm.length c2') (.slice Ab bd.length cb) sv nm (bd.map erO)) HSR.out hi hwW1 HRU.out HS1.out (by repeat (first | exact HBR2.out | apply Below.drew | apply below_alloc)) (er_itemR HBA.out HBDX.out (Nat.le_refl _) HB0.out HO.out (by repeat (first | exact Below.refl _ _ | apply Below.drew | apply below_alloc))) ho4 hg4 h5); clear ho4 hg4 hbx4)))
                all_goals go_wp2
                all_goals go_roundg k1
                all_goals first
                  | omega
                  | exact ⟨i + 1, _, _, (by first | rfl | (rw [wid (by omega) (by omega)]; simp)), ⟨by omega, by omega⟩, HNX.out _ (Below.refl _ _)⟩
                  | exact ⟨i + 1, _, _, (by first | rfl | (rw [wid (by omega) (by omega)]; simp)), ⟨by omega, by omega⟩, HNX.out _ (Below.refl _ _).drew⟩
        · have d1 : decide ((i : Int) < (Rs.length : Int)) = false := decide_eq_false (by omega)
          have hi2 : ¬ i < Rs.length := hi
          have hie : i = Rs.length := by omega
          subst hie
          have HSX := Aside0.mk hS
          obtain ⟨Av, cv, rfl⟩ : ∃ A c, v = .slice A ((Rs.take Rs.length).map erR).length c := own_form1 hS.rl.row
          have pr0 := blk_cell hS.out 0
          have pr1 := blk_cell hS.out 1
          have pr2 := blk_frozen hS.out 0
          have br := blk_below BR1.out hS.bel
          have p0 := blk_cell br 0
          have p1 := blk_cell br 1
          have p2 := blk_frozen br 0
          have p3 := blk_frozen br 1
          have BRX := Aside0.mk br
          clear hS br
          go_wp2
          have hrl := HSX.out.rl
          have hbel := HSX.out.bel
          rw [List.take_length] at hrl
          rw [List.length_map] at hrl
          have hG : erG Rs Ls = Rs.map erR := by unfold erG; rw [HVB.out]; rfl
          have b1 := blk_put (cs' := #[.slice Av Rs.length cv, .slice none 0 0]) BRX.out 0 (.slice Av Rs.length cv) rfl
          refine bodyPost_ret (results_cell_row rfl _ _ (w.heap.size + 1) 31 #[.slice Av Rs.length cv, .slice none 0 0] (0, 0) _ rfl (blk_put (cs := #[.slice Av Rs.length cv, .slice none 0 0]) b1 1 _ rfl) Try.underlying31 rfl (by kernel_rfl)) rfl ?_
          refine ⟨_, its, rfl, ?_, ?_⟩
          · rw [hG]
            exact ((hrl.lower (by omega)).setAt BRX.out (by decide) 0 _).setAt b1 (by decide) 1 _
          · exact ((below_then (below_then HW0.out HW0.out.size HB.out) (by omega) hbel).setCell (by simp) _).setCell (by simp) _
end Go.Proofs.Ytdiilocgjnlmiaa.Tre

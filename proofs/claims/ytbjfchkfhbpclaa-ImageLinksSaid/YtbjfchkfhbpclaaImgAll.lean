/- Several texts in one: Words for a walk by hand: append onto a row that is full and only read (a literal that is marked). Words for a walk by hand: a region that draws its order and writes: one operation of it by the rules of XAw. Words for a walk by hand: what a callee has made stands in the list of known blocks. image.put, image.adder. By wip/gen/img.py. image.Put. By wip/gen/img.py. image.take. By wip/gen/img_take.py. image.Take. By wip/gen/img_take.py. image: the examples of the chapter hold. By wip/gen/img_knows.py. -/
import Derived.Test.YtbjfchkfhbpclaaQx0
import Derived.Test.YtbjfchkfhbpclaaAw
import Derived.Test.YtbjfchkfhbpclaaAwSl
import Derived.Maps.AppendAt
import Derived.ArgAppend
import Derived.Deep.RegionLaw
import Derived.Test.YtbjfchkfhbpclaaAwFrame
import Derived.LoopTactic
import Derived.Deep.LoopGhost
import Derived.Lib.Hide
import Derived.Deep.QuietTactic
import Derived.BigQuiet
import Derived.IntWalk
import Derived.Test.YtbjfchkfhbpclaaQx2
--@needs XAw
--@needs XAwSl
namespace Go.Proofs.Ytbjfchkfhbpclaa.Q
open Go.RowKit Go.Proofs.YtbjfchkfhbpclaaW.PrintWords Go.Proofs.YtbjfchkfhbpclaaW.PrintLast Go.Proofs.YtbjfchkfhbpclaaW.PrintMore
attribute [local go_sem] max2_int min2_int max_two min_two max_three min_three max_four min_four   -- for this text's walks alone
set_option linter.unusedVariables false
set_option linter.unusedSimpArgs false

/-- a full row that is only read -/
def FixO (e : TypeId) (xs : List Value) (o : Obj) : Prop := ∃ fr, o = .cells xs.toArray e fr
abbrev Blk.fix (e : TypeId) (xs : List Value) : Blk := .p (FixO e xs)
section
variable {P : Program} {ops : Array Oper} {rest : List Oper} {o : Oper} {a : Act} {Q : Exit → Act → World → Prop} {S : Nat → Prop} {w W : World} {L : List (Nat × Blk)}
theorem Aw.fcell {g e : Nat} {xs : List Value} (h : Aw S w W L) (hi : (g, Blk.fix e xs) ∈ L) {j : Nat} {u : Value} (hu : xs[j]? = some u) : W.cell? ⟨g, j, none⟩ = some u := by
  obtain ⟨⟨o, ho, fr, rfl⟩, _⟩ := h.getL hi
  rw [cell_of_row W g j xs.toArray e fr ho]
  simpa using hu
theorem aw_append_fix_core (j : Nat) {t e : TypeId} {z : Value} {size bytes : Nat} {s x : Operand} {n g2 : Nat} {xs news : List Value}
    (ht : P.underlying t = some (.slice e)) (hi : (P.info? e).map (fun i => (i.zero, i.size, i.bytes)) = some (some z, size, bytes)) (hz : z.cells.size = size) (h0 : 0 < size)
    (ho : o.op = .call { callee := .builtin .append, args := #[s, x], argTypes := #[t, t] }) (hs : a.eval s = .slice (some ⟨g2, 0, none⟩) n n) (hw : Region.wanted o (yielded ops a.tmps) = true) (HA : Aw S w W L)
    {ad : Addr} {m c : Nat} (hx : a.eval x = .slice (some ad) m c) (hl : news.length = m * size) (hnews : ∀ j u, news[j]? = some u → W.cell? (ad.add j) = some u) (hm : 0 < m)
    (hg2 : L[j]? = some (g2, Blk.fix e xs)) (hxs : xs.length = n * size)
    (h63 : n + m ≤ maxLen) (hbytes : (n + m) * bytes ≤ 140737488355328)
    (h : ∀ v' W' Lv', Own e size v' (n + m) (xs ++ news) Lv' → Aw S w W' (L ++ Lv') → wpList P ops Q rest (a.put o.dst v') W') : wpList P ops Q (o :: rest) a W := by
  obtain ⟨inf, hi, hinf⟩ := Option.map_eq_some_iff.1 hi
  simp only [Prod.mk.injEq] at hinf
  obtain ⟨e1, e2, e3⟩ := hinf
  obtain ⟨v', W', hr, h2, h3⟩ := run_append_arg_grows (P := P) W t o.type e inf z size bytes ht hi e1 e2 e3 hz h0 ⟨g2, 0, none⟩ n n xs hxs
    (fun j u hu => by rw [Addr.add_mid, Nat.zero_add]; exact HA.fcell (List.mem_of_getElem? hg2) hu) ad m c news hl hnews (by omega) h63 hbytes
  have hK : Kp S w W' := HA.1.trans (S2 := fun _ => False) ⟨h3.os, h3.tape, h3.output, h3.size, fun i hi' _ => h3.block i hi' (by simp)⟩ (fun _ hk => hk.elim)
  have hkeep : ∀ y ∈ L, (∃ o, W'.heap[y.1]? = some o ∧ y.2.sat o) ∧ (S y.1 ∨ w.heap.size ≤ y.1) := by
    intro y hy
    obtain ⟨⟨o2, ho2, hb2⟩, hm⟩ := HA.2.1 y hy
    exact ⟨⟨o2, (h3.block y.1 (blk_lt ho2) (by simp)).trans ho2, hb2⟩, hm⟩
  refine aw_ev hw (w1 := W') (v := v') ?_ ?_
  · unfold execOp
    simp only [ho, resolve, invoke, builtin, Sem.run_bind, Sem.run_pure, Result.andThen_ok, List.map_toArray, List.map_cons, List.map_nil, hs, hx, hr]
  · obtain ⟨hlen, ⟨rfl, hn0⟩ | ⟨g3, cap, cur, rfl, hge, hg3, hnc, hcm, hsz, htk⟩⟩ := h2
    · omega
    · refine h _ _ [(g3, Blk.r e size cap (xs ++ news))] ⟨hlen, .inr ⟨g3, cap, rfl, hnc, rfl⟩⟩ ⟨hK, ?_, ?_⟩
      · intro y hy
        rcases List.mem_append.1 hy with hy | hy
        · exact hkeep y hy
        · obtain rfl := List.mem_singleton.1 hy
          exact ⟨⟨_, hg3, cur, rfl, hsz, hcm, by rw [hlen]; exact htk⟩, .inr (Nat.le_trans HA.1.size hge)⟩
      · rw [List.map_append, List.nodup_append]
        refine ⟨HA.2.2, by simp, ?_⟩
        intro y hy y2 hy2 he
        obtain ⟨z1, hz1, rfl⟩ := List.mem_map.1 hy
        have e5 : y2 = g3 := by simpa using hy2
        subst e5
        obtain ⟨o2, ho2, _⟩ := (HA.2.1 z1 hz1).1
        have := blk_lt ho2
        omega
theorem aw_append_fix (i j : Nat) {t e T : TypeId} {z : Value} {size bytes : Nat} {s x : Operand} {n g g2 : Nat} {xs news : List Value}
    (ht : P.underlying t = some (.slice e)) (hi : (P.info? e).map (fun i => (i.zero, i.size, i.bytes)) = some (some z, size, bytes)) (hz : z.cells.size = size) (h0 : 0 < size)
    (ho : o.op = .call { callee := .builtin .append, args := #[s, x], argTypes := #[t, t] }) (hs : a.eval s = .slice (some ⟨g2, 0, none⟩) n n) (hw : Region.wanted o (yielded ops a.tmps) = true) (HA : Aw S w W L)
    {m c : Nat} (hx : a.eval x = .slice (some ⟨g, 0, none⟩) m c) (hg : L[i]? = some (g, .c T news)) (hl : news.length = m * size) (hm : 0 < m)
    (hg2 : L[j]? = some (g2, Blk.fix e xs)) (hxs : xs.length = n * size)
    (h63 : n + m ≤ maxLen) (hbytes : (n + m) * bytes ≤ 140737488355328)
    (h : ∀ v' W' Lv', Own e size v' (n + m) (xs ++ news) Lv' → Aw S w W' (L ++ Lv') → wpList P ops Q rest (a.put o.dst v') W') : wpList P ops Q (o :: rest) a W :=
  aw_append_fix_core j ht hi hz h0 ho hs hw HA hx hl (fun j u hu => by rw [Addr.add_mid, Nat.zero_add]; exact HA.cell hg hu) hm hg2 hxs h63 hbytes h
/-- a literal's conversion to its own type marks the row behind its last cell -/
theorem aw_mark (i : Nat) {t e : TypeId} {x : Operand} {g n c : Nat} {l : List Value} (ht : P.underlying t = some (.slice e)) (he : P.underlying e = some (.int .u8)) (ho : o.op = .convert t t x) (hx : a.eval x = .slice (some ⟨g, 0, none⟩) n c) (hw : Region.wanted o (yielded ops a.tmps) = true) (HA : Aw S w W L)
    (hi : L[i]? = some (g, .c e l)) (h : ∀ W', Aw S w W' (L.set i (g, Blk.fix e l)) → wpList P ops Q rest (a.put o.dst (.slice (some ⟨g, 0, none⟩) n c)) W') : wpList P ops Q (o :: rest) a W := by
  have hg := HA.at hi
  have hsh : W.shape? g = some (e, l.length) := by
    unfold World.shape?
    rw [hg]
    simp
  have hgl : g < W.heap.size := blk_lt hg
  have e1 : (W.freeze ⟨g, l.length, none⟩ 1).heap[g]? = some (.cells l.toArray e (l.length, l.length + 1)) := by
    unfold World.freeze
    rw [if_neg (by decide)]
    simp [Array.getElem?_modify, hg]
  have e2 : ∀ k, k < W.heap.size → k ≠ g → (W.freeze ⟨g, l.length, none⟩ 1).heap[k]? = W.heap[k]? := by
    intro k _ hk
    unfold World.freeze
    rw [if_neg (by decide)]
    simp [Array.getElem?_modify, Ne.symm hk]
  have e3 : (W.freeze ⟨g, l.length, none⟩ 1).os = W.os ∧ (W.freeze ⟨g, l.length, none⟩ 1).tape = W.tape ∧ (W.freeze ⟨g, l.length, none⟩ 1).output = W.output := by
    unfold World.freeze
    rw [if_neg (by decide)]
    exact ⟨rfl, rfl, rfl⟩
  have e4 : W.heap.size ≤ (W.freeze ⟨g, l.length, none⟩ 1).heap.size := by
    unfold World.freeze
    rw [if_neg (by decide)]
    simp
  refine aw_ev hw (w1 := W.freeze ⟨g, l.length, none⟩ 1) (v := .slice (some ⟨g, 0, none⟩) n c) ?_ (h _ (HA.put (b' := Blk.fix e l) hi e3 e4 e1 ⟨_, rfl⟩ e2))
  unfold execOp
  rw [ho]
  simp [hx, convert, run_underlying ht, run_underlying he, markStringish, hsh, Sem.run_bind]
end
end Go.Proofs.Ytbjfchkfhbpclaa.Q

--@needs XAw
--@needs XAwSl
namespace Go.Proofs.Ytbjfchkfhbpclaa.Q
open Go.RowKit Go.Proofs.YtbjfchkfhbpclaaW.PrintWords Go.Proofs.YtbjfchkfhbpclaaW.PrintLast Go.Proofs.YtbjfchkfhbpclaaW.PrintMore
attribute [local go_sem] max2_int min2_int max_two min_two max_three min_three max_four min_four   -- for this text's walks alone
set_option linter.unusedVariables false
set_option linter.unusedSimpArgs false

/-- what holds behind one operation of a region: the rest of it, no other way out -/
def regQ (K : Act → World → Prop) : Exit → Act → World → Prop
  | .normal, a, w => K a w
  | _, _, _ => False
section
variable {P : Program} {ops : Array Oper} {o : Oper} {a : Act} {K : Act → World → Prop} {Q : Exit → Act → World → Prop} {E : Prop} {S : Nat → Prop} {w W : World} {L : List (Nat × Blk)}
theorem wp_regQ {K2 : Act → World → Prop} (h : ∀ a w, K2 a w → K a w) (hh : o.wp P a W K2 (regQ K)) : o.wp P a W K Q := by
  unfold Oper.wp at *
  generalize (execOp a.eval o).run P W = r at *
  cases r with
  | ok n w' =>
    cases n <;> simp only [Oper.upon] at hh ⊢ <;>
      first
        | exact h _ _ hh
        | exact Calls.mono hh (fun e w'' he => by
            cases e with
            | returned v => exact h _ _ he
            | panicked c => exact he.elim
            | outgrown => obtain ⟨_, _, he⟩ := he; exact he.elim)
        | exact Rows.mono hh (fun _ _ he => h _ _ he)
  | halt x w' => cases x <;> simp only [Oper.upon] at hh ⊢ <;> exact hh.elim
/-- one operation of a region, by the rules for a list of operations -/
theorem reg_step (hw : Region.wanted o (yielded ops a.tmps) = true) (h : wpList P ops (regQ K) [o] a W) : if Region.wanted o (yielded ops a.tmps) = true then Oper.wp P o a W K Q else E := by
  rw [if_pos hw]
  unfold wpList at h
  rw [if_pos hw] at h
  rcases h with h | ⟨_, _, _, h⟩
  · exact wp_regQ (fun _ _ h => h) h
  · exact h.elim
theorem reg_end (h : K a W) : wpList P ops (regQ K) [] a W := h
theorem Aw.newD (h : Aw S w W L) (t : TypeId) (l : List Value) : Aw S w (W.alloc (.cells l.toArray t (0, 0))) ((W.heap.size, .c t l) :: L) := by
  obtain ⟨g, W2, rfl, rfl, H⟩ := h.new (b := .c t l) (o := .cells l.toArray t (0, 0)) rfl
  exact H
theorem Aw.setD (h : Aw S w W L) {i g j : Nat} {T : TypeId} {l : List Value} (v : Value) (hi : L[i]? = some (g, .c T l)) : Aw S w (W.setCell ⟨g, j, none⟩ v) (L.set i (g, .c T (l.set j v))) := by
  have h2 := blk_set (g := g) (h.at hi) j v
  rw [List.setIfInBounds_toArray] at h2
  exact h.put (b' := .c T (l.set j v)) hi ⟨rfl, rfl, rfl⟩ (by simp [World.setCell]) h2 rfl (fun k _ hk => Below.heap_setCell W ⟨g, j, none⟩ v k hk)
end
end Go.Proofs.Ytbjfchkfhbpclaa.Q

--@needs XAw
--@needs XAwSl
namespace Go.Proofs.Ytbjfchkfhbpclaa.Q
open Go.RowKit Go.Proofs.YtbjfchkfhbpclaaW.PrintWords Go.Proofs.YtbjfchkfhbpclaaW.PrintLast Go.Proofs.YtbjfchkfhbpclaaW.PrintMore
attribute [local go_sem] max2_int min2_int max_two min_two max_three min_three max_four min_four   -- for this text's walks alone
set_option linter.unusedVariables false
set_option linter.unusedSimpArgs false

theorem Aw.fromR {w W W' : World} {L : List (Nat × Blk)} {q : IntKind} {e : TypeId} {ok : Nat → Prop} {v : Value} {l : List Int} (HA : Aw noS w W L) (hb : Below W.heap.size W W') (hR : Kd.R (Kd.int q) e W' W.heap.size ok v l) : ∃ Lv, Own e 1 v l.length (l.map (Value.int q)) Lv ∧ Aw noS w W' (L ++ Lv) := by
  have HB := HA.call hb
  obtain ⟨hl, ⟨rfl, hn⟩ | ⟨g, cap, cur, rfl, hg, hh, hc, hm, hs, ht⟩⟩ := Kd.own_of_R hR
  · exact ⟨[], ⟨by simp, .inl ⟨rfl, hn, rfl⟩⟩, by simpa using HB⟩
  · refine ⟨[(g, Blk.r e 1 cap (l.map (Value.int q)))], ⟨by simp, .inr ⟨g, cap, rfl, hc, rfl⟩⟩, HB.1, ?_, ?_⟩
    · intro x hx
      rcases List.mem_append.1 hx with hx | hx
      · exact HB.2.1 x hx
      · obtain rfl := List.mem_singleton.1 hx
        refine ⟨⟨_, hh, cur, rfl, hs, hm, ?_⟩, .inr (Nat.le_trans HA.1.size hg)⟩
        have e1 : (encs (Value.int q) l).length = l.length := by rw [hl]; omega
        have e2 : encs (Value.int q) l = l.map (Value.int q) := rfl
        rw [← e2, e1]
        rw [Nat.mul_one] at ht
        exact ht
    · rw [List.map_append, List.nodup_append]
      refine ⟨HB.2.2, by simp, ?_⟩
      intro y hy z hz he
      obtain ⟨x, hx, rfl⟩ := List.mem_map.1 hy
      have e3 : z = g := by simpa using hz
      subst e3
      obtain ⟨o, ho, _⟩ := (HA.2.1 x hx).1
      have := blk_lt ho
      omega
end Go.Proofs.Ytbjfchkfhbpclaa.Q

--@needs XAw
--@needs XAwSl
--@needs XAwFrame
--@needs XAwFix

namespace Go.Proofs.Ytbjfchkfhbpclaa.Q
open Go.RowKit Go.Proofs.YtbjfchkfhbpclaaW.PrintWords Go.Proofs.YtbjfchkfhbpclaaW.PrintLast Go.Proofs.YtbjfchkfhbpclaaW.PrintMore
attribute [local go_sem] max2_int min2_int max_two min_two max_three min_three max_four min_four   -- for this text's walks alone
set_option linter.unusedVariables false
set_option linter.unusedSimpArgs false

theorem img_form {e size n : Nat} {v : Value} {xs : List Value} {Lv : List (Nat × Blk)} (h : Own e size v n xs Lv) : ∃ A c, v = .slice A n c := by
  obtain ⟨_, ⟨rfl, hn, _⟩ | ⟨g, cap, rfl, _, _⟩⟩ := h
  · exact ⟨none, 0, by rw [hn]⟩
  · exact ⟨_, _, rfl⟩
theorem b_info : (Try.prog.info? 5).map (fun i => (i.zero, i.size, i.bytes)) = some (some (.int .u8 0), 1, 1) := by kernel_rfl
def fourB (n : Int) : List Int := [n / 16777216 % 256, n / 65536 % 256, n / 256 % 256, n % 256]
def putsB (l : List Int) : List Int := l.flatMap fourB
theorem putsB_take {l : List Int} {k : Nat} (h : k < l.length) : putsB (l.take (k + 1)) = putsB (l.take k) ++ fourB (rd l k) := by
  unfold putsB rd
  rw [List.take_succ_eq_append_getElem h, List.flatMap_append, Int.toNat_natCast, List.getD_eq_getElem?_getD, List.getElem?_eq_getElem h]
  simp
theorem putsB_len (l : List Int) : (putsB l).length = 4 * l.length := by
  unfold putsB
  induction l with
  | nil => rfl
  | cons a l ih => rw [List.flatMap_cons, List.length_append, ih]; simp [fourB]; omega
set_option maxHeartbeats 8000000 in
set_option maxRecDepth 100000 in
theorem img_put.calls {S : Nat → Prop} {w W : World} {R : List (Nat × Blk)} {v0 : Value} {Lv0 : List (Nat × Blk)} (b : List Int) (A1 : Option Addr) (c1 : Nat) (l1 : List Int) (hown0 : Own 5 1 v0 b.length (b.map (Value.int .u8)) Lv0) (hr : ∀ W' Lv', Aw S w W' (R ++ Lv') → Kd.C (Kd.int .u32) W' A1 l1.length l1) (hc1 : l1.length ≤ c1) (hl : l1.length ≤ 100000) (hb : b.length ≤ 1000000) (HA : Aw S w W (R ++ Lv0)) :
    Calls Try.prog 23 #[v0, .slice A1 l1.length c1] W fun e W' => ∃ v' Lv', e = .returned v' ∧ Own 5 1 v' (b ++ putsB l1).length ((b ++ putsB l1).map (Value.int .u8)) Lv' ∧ Aw S w W' (R ++ Lv') := by
  have HR := Lib.hid hr
  clear hr
  go_enter Try.func23, Try.ntmps23
  go_wp2
  go_loopg [0, 9] (l1.length) (fun g v i wx => ∃ (k : Nat) (Lv : List (Nat × Blk)), k + g = l1.length ∧ i = .int .i64 k ∧ Own 5 1 v (b ++ putsB (l1.take k)).length ((b ++ putsB (l1.take k)).map (Value.int .u8)) Lv ∧ Aw S w wx (R ++ Lv))
  case atStart => exact ⟨0, Lv0, by omega, rfl, by simpa [putsB] using hown0, HA⟩
  case round =>
    clear HA hown0
    obtain ⟨k, Lv, hk, rfl, hown, HA⟩ := hrel
    obtain ⟨A_, c_, rfl⟩ := img_form hown
    by_cases hlt : k < l1.length
    · have ck1 : decide ((k : Int) < (l1.length : Int)) = true := decide_eq_true (by omega)
      have ck2 : decide (k < l1.length) = true := decide_eq_true hlt
      have ck3 : 0 ≤ (k : Int) := by omega
      obtain ⟨ad, e, hcell⟩ := Kd.at_int (HR.out _ _ HA) (k : Int) (by omega) (by omega)
      subst e
      rw [Int.toNat_natCast] at hcell
      have HT := Aside0.mk (putsB_take hlt)
      obtain ⟨p, hp⟩ : ∃ p, rd l1 k = p := ⟨_, rfl⟩
      rw [hp] at hcell HT
      have hpl := putsB_len (l1.take k)
      rw [List.length_take] at hpl
      obtain ⟨pre, hpre⟩ : ∃ pre, b ++ putsB (l1.take k) = pre := ⟨_, rfl⟩
      have hprl : pre.length ≤ 2000000 := by rw [← hpre, List.length_append, hpl]; omega
      rw [hpre] at hown ⊢
      have HP := Aside0.mk hpre
      have hap1 : pre.length + 4 ≤ maxLen := by unfold maxLen; omega
      have hap2 : (pre.length + 4) * 1 ≤ 140737488355328 := by omega
      clear hp hpl hpre
      go_wp2_with (first | ((with_reducible refine gate_dst (N := 25) rfl ?_); refine aw_newv (fun g => .slice (some ⟨g, 0, none⟩) 4 4) 5 [.int .u8 (p / 16777216 % 256), .int .u8 (p / 65536 % 256), .int .u8 (p / 256 % 256), .int .u8 (p % 256)] rfl (fun W => by first | (go_simp; done) | (go_simp; rfl) | kernel_rfl) HA ?_; clear HA; intro gn W_ HA; simp only [Act.put, List.setIfInBounds_toArray, List.set_cons_succ, List.set_cons_zero]) | ((with_reducible refine gate_dst (N := 26) rfl ?_); refine aw_append (R.length + 1) 0 (Lv := Lv) (by simp) Try.underlying32 b_info rfl (Nat.le_refl 1) rfl hown rfl rfl HA rfl rfl rfl rfl hap1 hap2 ?_; clear HA; intro v_ W_ Lv_ hown_ HA; simp only [List.take_succ_cons, List.take_left'] at HA; simp only [Act.put, List.setIfInBounds_toArray, List.set_cons_succ, List.set_cons_zero]))
      go_roundg (l1.length - (k + 1))
      case measure => omega
      case rel => exact ⟨k + 1, Lv_, by omega, by go_num, by rw [HT.out, ← List.append_assoc, HP.out]; simpa [fourB] using hown_, HA.sub (List.sublist_cons_self _ _)⟩
    · have ck1 : decide ((k : Int) < (l1.length : Int)) = false := decide_eq_false (by omega)
      have ck2 : decide (k < l1.length) = false := decide_eq_false hlt
      obtain rfl : k = l1.length := by omega
      rw [List.take_length] at hown ⊢
      clear hlt hk
      obtain ⟨pre, hpre⟩ : ∃ pre, b ++ putsB l1 = pre := ⟨_, rfl⟩
      rw [hpre] at hown ⊢
      have HP := Aside0.mk hpre
      clear hpre
      go_wp2
      go_ret
      exact ⟨_, _, rfl, by rw [HP.out]; exact hown, HA⟩
set_option maxHeartbeats 8000000 in
set_option maxRecDepth 100000 in
theorem img_putF.calls {S : Nat → Prop} {w W : World} {R : List (Nat × Blk)} {g0 : Nat} (j : Nat) (b : List Int) (A1 : Option Addr) (c1 : Nat) (l1 : List Int) (hj : R[j]? = some (g0, Blk.fix 5 (b.map (Value.int .u8)))) (hr : ∀ W' Lv', Aw S w W' (R ++ Lv') → Kd.C (Kd.int .u32) W' A1 l1.length l1) (hc1 : l1.length ≤ c1) (hl : l1.length ≤ 100000) (hl0 : 0 < l1.length) (hb : b.length ≤ 1000000) (HA : Aw S w W R) :
    Calls Try.prog 23 #[.slice (some ⟨g0, 0, none⟩) b.length b.length, .slice A1 l1.length c1] W fun e W' => ∃ v' Lv', e = .returned v' ∧ Own 5 1 v' (b ++ putsB l1).length ((b ++ putsB l1).map (Value.int .u8)) Lv' ∧ Aw S w W' (R ++ Lv') := by
  have HR := Lib.hid hr
  clear hr
  have hbl : (b.map (Value.int .u8)).length = b.length * 1 := by simp
  have hapF1 : b.length + 4 ≤ maxLen := by unfold maxLen; omega
  have hapF2 : (b.length + 4) * 1 ≤ 140737488355328 := by omega
  go_enter Try.func23, Try.ntmps23
  go_wp2
  go_loopg [0, 9] (l1.length) (fun g v i wx => ∃ (k : Nat) (Lv : List (Nat × Blk)), k + g = l1.length ∧ i = .int .i64 k ∧ ((k = 0 ∧ v = .slice (some ⟨g0, 0, none⟩) b.length b.length ∧ Lv = []) ∨ (0 < k ∧ Own 5 1 v (b ++ putsB (l1.take k)).length ((b ++ putsB (l1.take k)).map (Value.int .u8)) Lv)) ∧ Aw S w wx (R ++ Lv))
  case atStart => exact ⟨0, [], by omega, rfl, .inl ⟨rfl, rfl, rfl⟩, by simpa using HA⟩
  case round =>
    clear HA
    obtain ⟨k, Lv, hk, rfl, hown, HA⟩ := hrel
    by_cases hlt : k < l1.length
    · have ck1 : decide ((k : Int) < (l1.length : Int)) = true := decide_eq_true (by omega)
      have ck2 : decide (k < l1.length) = true := decide_eq_true hlt
      have ck3 : 0 ≤ (k : Int) := by omega
      obtain ⟨ad, e, hcell⟩ := Kd.at_int (HR.out _ _ HA) (k : Int) (by omega) (by omega)
      subst e
      rw [Int.toNat_natCast] at hcell
      have HT := Aside0.mk (putsB_take hlt)
      obtain ⟨p, hp⟩ : ∃ p, rd l1 k = p := ⟨_, rfl⟩
      rw [hp] at hcell HT
      clear hp
      rcases hown with ⟨hk0, rfl, rfl⟩ | ⟨hkp, hown⟩
      · rw [List.append_nil] at HA
        have HK0 := Aside0.mk hk0
        clear hk0
        go_wp2_with (first | ((with_reducible refine gate_dst (N := 25) rfl ?_); refine aw_newv (fun g => .slice (some ⟨g, 0, none⟩) 4 4) 5 [.int .u8 (p / 16777216 % 256), .int .u8 (p / 65536 % 256), .int .u8 (p / 256 % 256), .int .u8 (p % 256)] rfl (fun W => by first | (go_simp; done) | (go_simp; rfl) | kernel_rfl) HA ?_; clear HA; intro gn W_ HA; simp only [Act.put, List.setIfInBounds_toArray, List.set_cons_succ, List.set_cons_zero]) | ((with_reducible refine gate_dst (N := 26) rfl ?_); refine aw_append_fix 0 (j + 1) Try.underlying32 b_info rfl (Nat.le_refl 1) rfl rfl rfl HA rfl rfl rfl (by decide) hj hbl hapF1 hapF2 ?_; clear HA; intro v_ W_ Lv_ hown_ HA; simp only [Act.put, List.setIfInBounds_toArray, List.set_cons_succ, List.set_cons_zero]))
        go_roundg (l1.length - (k + 1))
        case measure => omega
        case rel =>
          refine ⟨k + 1, Lv_, by omega, by go_num, .inr ⟨by omega, ?_⟩, HA.sub (List.sublist_cons_self _ _)⟩
          rw [HT.out, HK0.out]
          simpa [fourB, putsB] using hown_
      · obtain ⟨A_, c_, rfl⟩ := img_form hown
        have hpl := putsB_len (l1.take k)
        rw [List.length_take] at hpl
        obtain ⟨pre, hpre⟩ : ∃ pre, b ++ putsB (l1.take k) = pre := ⟨_, rfl⟩
        have hprl : pre.length ≤ 2000000 := by rw [← hpre, List.length_append, hpl]; omega
        rw [hpre] at hown ⊢
        have HP := Aside0.mk hpre
        have hap1 : pre.length + 4 ≤ maxLen := by unfold maxLen; omega
        have hap2 : (pre.length + 4) * 1 ≤ 140737488355328 := by omega
        clear hpl hpre
        go_wp2_with (first | ((with_reducible refine gate_dst (N := 25) rfl ?_); refine aw_newv (fun g => .slice (some ⟨g, 0, none⟩) 4 4) 5 [.int .u8 (p / 16777216 % 256), .int .u8 (p / 65536 % 256), .int .u8 (p / 256 % 256), .int .u8 (p % 256)] rfl (fun W => by first | (go_simp; done) | (go_simp; rfl) | kernel_rfl) HA ?_; clear HA; intro gn W_ HA; simp only [Act.put, List.setIfInBounds_toArray, List.set_cons_succ, List.set_cons_zero]) | ((with_reducible refine gate_dst (N := 26) rfl ?_); refine aw_append (R.length + 1) 0 (Lv := Lv) (by simp) Try.underlying32 b_info rfl (Nat.le_refl 1) rfl hown rfl rfl HA rfl rfl rfl rfl hap1 hap2 ?_; clear HA; intro v_ W_ Lv_ hown_ HA; simp only [List.take_succ_cons, List.take_left'] at HA; simp only [Act.put, List.setIfInBounds_toArray, List.set_cons_succ, List.set_cons_zero]))
        go_roundg (l1.length - (k + 1))
        case measure => omega
        case rel => exact ⟨k + 1, Lv_, by omega, by go_num, .inr ⟨by omega, by rw [HT.out, ← List.append_assoc, HP.out]; simpa [fourB] using hown_⟩, HA.sub (List.sublist_cons_self _ _)⟩
    · have ck1 : decide ((k : Int) < (l1.length : Int)) = false := decide_eq_false (by omega)
      have ck2 : decide (k < l1.length) = false := decide_eq_false hlt
      rcases hown with ⟨hk0, _, _⟩ | ⟨hkp, hown⟩
      · omega
      obtain rfl : k = l1.length := by omega
      rw [List.take_length] at hown
      obtain ⟨A_, c_, rfl⟩ := img_form hown
      clear hlt hk
      obtain ⟨pre, hpre⟩ : ∃ pre, b ++ putsB l1 = pre := ⟨_, rfl⟩
      rw [hpre] at hown ⊢
      have HP := Aside0.mk hpre
      clear hpre
      go_wp2
      go_ret
      exact ⟨_, _, rfl, by rw [HP.out]; exact hown, HA⟩
def sumB (s : Int) (l : List Int) : Int := l.foldl (fun s c => (31 * s % 4294967296 + c) % 4294967296) s
theorem sumB_take {l : List Int} {k : Nat} (s : Int) (h : k < l.length) : sumB s (l.take (k + 1)) = (31 * sumB s (l.take k) % 4294967296 + rd l k) % 4294967296 := by
  unfold sumB rd
  rw [List.take_succ_eq_append_getElem h, List.foldl_append, Int.toNat_natCast, List.getD_eq_getElem?_getD, List.getElem?_eq_getElem h]
  rfl
theorem sumB_range (s : Int) (hs : 0 ≤ s ∧ s < 4294967296) (l : List Int) : 0 ≤ sumB s l ∧ sumB s l < 4294967296 := by
  unfold sumB
  induction l generalizing s with
  | nil => exact hs
  | cons a l ih => exact ih _ (by dsimp only; omega)
theorem sum_zero (W : World) : (Instr.alloc 50 true (.tuple #[])).run Try.prog W = .ok (.pointer (some ⟨W.heap.size, 0, none⟩)) (W.alloc (.cells [.int .u32 0].toArray 50 (0, 0))) := by kernel_rfl
set_option maxHeartbeats 8000000 in
set_option maxRecDepth 100000 in
theorem img_sum.calls {S : Nat → Prop} {w W : World} {R : List (Nat × Blk)} {g : Nat} (s : Int) (hs : 0 ≤ s ∧ s < 4294967296) (A1 : Option Addr) (c1 : Nat) (l1 : List Int) (hr : ∀ W' s', Aw S w W' ((g, .c 50 [.int .u32 s']) :: R) → Kd.C (Kd.int .u8) W' A1 l1.length l1) (hby : ∀ x ∈ l1, 0 ≤ x ∧ x < 256) (hc1 : l1.length ≤ c1) (hl : l1.length ≤ 1000000) (HA : Aw S w W ((g, .c 50 [.int .u32 s]) :: R)) :
    Calls Try.prog 32 #[.slice A1 l1.length c1, .pointer (some ⟨g, 0, none⟩)] W fun e W' => e = .returned (.int .u32 (sumB s l1)) ∧ Aw S w W' ((g, .c 50 [.int .u32 (sumB s l1)]) :: R) := by
  have HR := Lib.hid hr
  have HBY := Lib.hid hby
  clear hr hby
  go_enter Try.func32, Try.ntmps32
  go_wp2
  go_loopg [8] (l1.length) (fun gg i wx => ∃ (k : Nat), k + gg = l1.length ∧ i = .int .i64 k ∧ Aw S w wx ((g, .c 50 [.int .u32 (sumB s (l1.take k))]) :: R))
  case atStart => exact ⟨0, by omega, rfl, HA⟩
  case round =>
    clear HA
    obtain ⟨k, hk, rfl, HA⟩ := hrel
    have hq := sumB_range s hs (l1.take k)
    by_cases hlt : k < l1.length
    · have ck1 : decide ((k : Int) < (l1.length : Int)) = true := decide_eq_true (by omega)
      have ck2 : decide (k < l1.length) = true := decide_eq_true hlt
      have ck3 : 0 ≤ (k : Int) := by omega
      obtain ⟨ad, e, hcell⟩ := Kd.at_int (HR.out _ _ HA) (k : Int) (by omega) (by omega)
      subst e
      rw [Int.toNat_natCast] at hcell
      have HT := Aside0.mk (sumB_take s hlt)
      have hpb := HBY.out (rd l1 k) (by unfold rd; rw [Int.toNat_natCast, List.getD_eq_getElem?_getD, List.getElem?_eq_getElem hlt]; exact List.getElem_mem hlt)
      obtain ⟨p, hp⟩ : ∃ p, rd l1 k = p := ⟨_, rfl⟩
      rw [hp] at hcell HT hpb
      obtain ⟨q, hqq⟩ : ∃ q, sumB s (l1.take k) = q := ⟨_, rfl⟩
      rw [hqq] at HT hq HA
      clear hp hqq
      go_wp2_with (first | ((with_reducible refine gate_ld rfl ?_); (refine aw_load 0 rfl rfl HA rfl rfl rfl ?_ ?_); kernel_rfl; simp only [Act.put, List.setIfInBounds_toArray, List.set_cons_succ, List.set_cons_zero]) | ((with_reducible refine gate_st rfl ?_); (refine aw_store 0 (v := .int _ _) rfl rfl rfl rfl rfl HA rfl rfl rfl ?_ ?_); kernel_rfl; clear HA; intro W_ HA; dsimp only [List.set, List.take, List.cons_append, List.nil_append] at HA))
      go_roundg (l1.length - (k + 1))
      case measure => omega
      case rel =>
        refine ⟨k + 1, by omega, by go_num, ?_⟩
        rw [HT.out]
        refine Aw.congr HA ?_
        have e1 : p % 4294967296 = p := by omega
        first | rfl | (simp [e1]; done) | (congr 4; omega)
    · have ck1 : decide ((k : Int) < (l1.length : Int)) = false := decide_eq_false (by omega)
      have ck2 : decide (k < l1.length) = false := decide_eq_false hlt
      have hkl : k = l1.length := by omega
      rw [hkl, List.take_length] at HA
      clear hlt hk hkl
      go_wp2_with (first | ((with_reducible refine gate_ld rfl ?_); (refine aw_load 0 rfl rfl HA rfl rfl rfl ?_ ?_); kernel_rfl; simp only [Act.put, List.setIfInBounds_toArray, List.set_cons_succ, List.set_cons_zero]) | ((with_reducible refine gate_st rfl ?_); (refine aw_store 0 (v := .int _ _) rfl rfl rfl rfl rfl HA rfl rfl rfl ?_ ?_); kernel_rfl; clear HA; intro W_ HA; dsimp only [List.set, List.take, List.cons_append, List.nil_append] at HA))
      go_ret
      exact ⟨rfl, HA⟩
set_option maxHeartbeats 8000000 in
set_option maxRecDepth 100000 in
theorem img_adder.calls (W : World) : Calls Try.prog 24 #[] W fun e W' => ∃ g, e = .returned (.func (.func 32) #[] #[.pointer (some ⟨g, 0, none⟩)]) ∧ Aw noS W W' [(g, .c 50 [.int .u32 1])] := by
  have HA := Aw.start noS W
  go_enter Try.func24, Try.ntmps24
  go_wp2_with (first | ((with_reducible refine gate_dst (N := 1) rfl ?_); refine aw_alloc rfl rfl sum_zero HA ?_; clear HA; intro gs W_ HA; simp only [Act.put, List.setIfInBounds_toArray, List.set_cons_succ, List.set_cons_zero]) | ((with_reducible refine gate_st rfl ?_); (refine aw_store 0 (v := .int _ _) rfl rfl rfl rfl rfl HA rfl rfl rfl ?_ ?_); kernel_rfl; clear HA; intro W_ HA; dsimp only [List.set, List.take, List.cons_append, List.nil_append] at HA))
  go_ret
  exact ⟨gs, rfl, HA⟩
end Go.Proofs.Ytbjfchkfhbpclaa.Q

--@needs XAw
--@needs XAwSl
--@needs XAwFrame
--@needs XAwFix
--@needs XHimgSum
--@uses camlet/image.Right
namespace Go.Proofs.Ytbjfchkfhbpclaa.Q
open Go.RowKit Go.Proofs.YtbjfchkfhbpclaaW.PrintWords Go.Proofs.YtbjfchkfhbpclaaW.PrintLast Go.Proofs.YtbjfchkfhbpclaaW.PrintMore
attribute [local go_sem] max2_int min2_int max_two min_two max_three min_three max_four min_four   -- for this text's walks alone
set_option linter.unusedVariables false
set_option linter.unusedSimpArgs false

def imgRight (l : List Int) (a : Int) : Bool := decide (1 ≤ l.length ∧ l.length ≤ 16384 ∧ 0 ≤ a ∧ a < l.length)
theorem imgRight_eq (l : List Int) (a : Int) : image_Right.f l a = some (imgRight l a) := by
  unfold image_Right.f imgRight
  repeat' split
  all_goals (first | (congr 1; symm; rw [decide_eq_false_iff_not]; omega) | (congr 1; rw [decide_eq_decide]; omega))
theorem aw_pure {P : Program} {ops : Array Oper} {rest : List Oper} {o : Oper} {a : Act} {Q : Exit → Act → World → Prop} {W : World} (v : Value) (hw : Region.wanted o (yielded ops a.tmps) = true) (hrun : ∀ W : World, (execOp a.eval o).run P W = .ok (.value v) W) (h : wpList P ops Q rest (a.put o.dst v) W) : wpList P ops Q (o :: rest) a W := aw_ev hw (hrun W) h
def imgHead (l : List Int) (a : Int) : List Int := [67, 77, 76, 49] ++ putsB [(l.length : Int), a] ++ putsB l
def imgBytes (l : List Int) (a : Int) : List Int := imgHead l a ++ putsB [sumB 1 (imgHead l a)]
def image_Put.f (_k : Nat) (l0_0 : List Int) (a0_1 : Int) : Option (List Int × Int) := if imgRight l0_0 a0_1 = true then some (imgBytes l0_0 a0_1, 0) else some ([], 1)
theorem image_Put.mono (a0 : List Int) (a1 : Int) (k : Nat) : LeO (image_Put.f k a0 a1) (image_Put.f (k + 1) a0 a1) := LeO.refl _
theorem fourB_byte {n : Int} : ∀ x ∈ fourB n, 0 ≤ x ∧ x < 256 := by
  intro x hx
  simp only [fourB, List.mem_cons, List.not_mem_nil, or_false] at hx
  omega
theorem putsB_byte {l : List Int} : ∀ x ∈ putsB l, 0 ≤ x ∧ x < 256 := by
  intro x hx
  obtain ⟨n, _, h⟩ := List.mem_flatMap.1 hx
  exact fourB_byte x h
theorem imgHead_byte {l : List Int} {a : Int} : ∀ x ∈ imgHead l a, 0 ≤ x ∧ x < 256 := by
  intro x hx
  unfold imgHead at hx
  rw [List.mem_append, List.mem_append] at hx
  rcases hx with (h | h) | h
  · simp only [List.mem_cons, List.not_mem_nil, or_false] at h; omega
  · exact putsB_byte x h
  · exact putsB_byte x h
theorem imgHead_len (l : List Int) (a : Int) : (imgHead l a).length = 12 + 4 * l.length := by
  unfold imgHead
  rw [List.length_append, List.length_append, putsB_len, putsB_len]
  simp
theorem Own.reads {w W : World} {L : List (Nat × Blk)} {q : IntKind} {e : TypeId} {A : Option Addr} {c : Nat} {l : List Int} {Lv : List (Nat × Blk)} (h : Own e 1 (.slice A l.length c) l.length (l.map (Value.int q)) Lv) (HA : Aw noS w W L) (hs : ∀ x ∈ Lv, x ∈ L) : Kd.C (Kd.int q) W A l.length l ∧ l.length ≤ c := by
  have := Kd.R_reads' (h.kdR (ok := fun _ => True) HA hs (fun _ _ => trivial))
  exact ⟨this.2.2, this.2.1⟩
theorem img_put1 {w W : World} {g0 g1 bx : Nat} {B : Blk} (n a : Int) (HA : Aw noS w W [(g1, .c 50 [.int .u32 n, .int .u32 a]), (g0, Blk.fix 5 [.int .u8 67, .int .u8 77, .int .u8 76, .int .u8 49]), (bx, B)]) :
    Calls Try.prog 23 #[.slice (some ⟨g0, 0, none⟩) 4 4, .slice (some ⟨g1, 0, none⟩) 2 2] W fun e W' => ∃ v' Lv', e = .returned v' ∧ Own 5 1 v' ([67, 77, 76, 49] ++ putsB [n, a]).length (([67, 77, 76, 49] ++ putsB [n, a]).map (Value.int .u8)) Lv' ∧ Aw noS w W' ([(g0, Blk.fix 5 [.int .u8 67, .int .u8 77, .int .u8 76, .int .u8 49]), (bx, B), (g1, Blk.r 50 1 2 ([n, a].map (Value.int .u32)))] ++ Lv') := by
  have h2 : (2 : Nat) ≤ maxLen := by unfold maxLen; omega
  have H1 : Aw noS w W ([(g0, Blk.fix 5 [.int .u8 67, .int .u8 77, .int .u8 76, .int .u8 49]), (bx, B), (g1, Blk.r 50 1 2 ([n, a].map (Value.int .u32)))]) := HA.litLast (n := 2) (size := 1) rfl h2
  have o1 : Own 50 1 (.slice (some ⟨g1, 0, none⟩) ([n, a] : List Int).length 2) ([n, a] : List Int).length (([n, a] : List Int).map (Value.int .u32)) [(g1, Blk.r 50 1 2 (([n, a] : List Int).map (Value.int .u32)))] := Own.full rfl
  exact img_putF.calls 0 [67, 77, 76, 49] (some ⟨g1, 0, none⟩) 2 [n, a] rfl (fun W' Lv' h => (o1.reads h (by simp)).1) (Nat.le_refl _) (by simp) (by simp) (by simp) H1
theorem img_put3 {w W : World} {g2 : Nat} {R : List (Nat × Blk)} {v : Value} {Lv : List (Nat × Blk)} (b : List Int) (sm : Int) (hown : Own 5 1 v b.length (b.map (Value.int .u8)) Lv) (hb : b.length ≤ 1000000) (HA : Aw noS w W ((g2, .c 50 [.int .u32 sm]) :: (R ++ Lv))) :
    Calls Try.prog 23 #[v, .slice (some ⟨g2, 0, none⟩) 1 1] W fun e W' => ∃ v' Lv', e = .returned v' ∧ Own 5 1 v' (b ++ putsB [sm]).length ((b ++ putsB [sm]).map (Value.int .u8)) Lv' ∧ Aw noS w W' (((g2, Blk.r 50 1 1 ([sm].map (Value.int .u32))) :: R) ++ Lv') := by
  have h1 : (1 : Nat) ≤ maxLen := by unfold maxLen; omega
  have H1 := HA.litLast (n := 1) (size := 1) rfl h1
  have H2 : Aw noS w W (((g2, Blk.r 50 1 1 ([sm].map (Value.int .u32))) :: R) ++ Lv) := H1.perm List.perm_append_comm
  have o1 : Own 50 1 (.slice (some ⟨g2, 0, none⟩) ([sm] : List Int).length 1) ([sm] : List Int).length (([sm] : List Int).map (Value.int .u32)) [(g2, Blk.r 50 1 1 (([sm] : List Int).map (Value.int .u32)))] := Own.full rfl
  exact img_put.calls b (some ⟨g2, 0, none⟩) 1 [sm] hown (fun W' Lv' h => (o1.reads h (by simp)).1) (Nat.le_refl _) (by simp) hb H2
set_option maxHeartbeats 8000000 in
set_option maxRecDepth 100000 in
theorem image_Put.calls (k : Nat) (A0_0 : Option Addr) (c0_0 : Nat) (l0_0 : List Int) (a0_1 : Int) (r1 : List Int) (r2 : Int) (w : World) (hr0_0 : Kd.C (Kd.int .u32) w A0_0 l0_0.length l0_0) (hc0_0 : l0_0.length ≤ c0_0) (h : image_Put.f k l0_0 a0_1 = some (r1, r2)) :
    Calls Try.prog 13 #[.agg #[.slice A0_0 l0_0.length c0_0, .int .i64 a0_1]] w fun e w' => ∃ v0_ : Value, e = .returned (.tuple #[v0_, .int .i64 r2]) ∧ Kd.R (Kd.int .u8) 5 w' w.heap.size (fun _ => True) v0_ r1 ∧ Below w.heap.size w w' := by
  have HA := Aw.start noS w
  have HR0 := Aside0.mk hr0_0
  clear hr0_0
  have hright := imgRight_eq l0_0 a0_1
  unfold image_Put.f at h
  cases hR : imgRight l0_0 a0_1 with
  | false =>
    rw [hR] at h hright
    rw [if_neg (by decide)] at h
    obtain ⟨rfl, rfl⟩ := Prod.mk.inj (Option.some.inj h)
    clear h
    go_enter Try.func13, Try.ntmps13
    go_wp2_with (first | ((with_reducible refine gate_dst (N := 1) rfl ?_); refine aw_box rfl rfl rfl HA ?_; clear HA; intro bx W_ HA; simp only [Act.put, List.setIfInBounds_toArray, List.set_cons_succ, List.set_cons_zero]) | (go_at_call 15; refine (image_Right.calls A0_0 c0_0 l0_0 a0_1 _ _ (HA.1.reads HR0.out) hc0_0 hright).mono ?_; rintro e W_ ⟨rfl, hb_⟩; replace HA := HA.call hb_; clear hb_) | ((with_reducible refine gate_ld rfl ?_); (first | refine aw_loadW 0 (t := 27) rfl rfl HA rfl rfl ?_ ?_ | refine aw_load 0 rfl rfl HA rfl rfl rfl ?_ ?_ | refine aw_load 1 rfl rfl HA rfl rfl rfl ?_ ?_ | refine aw_load 2 rfl rfl HA rfl rfl rfl ?_ ?_ | refine aw_load 3 rfl rfl HA rfl rfl rfl ?_ ?_); kernel_rfl; simp only [Act.put, List.setIfInBounds_toArray, List.set_cons_succ, List.set_cons_zero]))
    go_ret2
    exact ⟨_, rfl, (Own.nil _ _).kdR (l := []) HA (by simp) (fun _ _ => trivial), HA.below⟩
  | true =>
    rw [hR] at h hright
    rw [if_pos rfl] at h
    obtain ⟨hr1, rfl⟩ := Prod.mk.inj (Option.some.inj h)
    have HR1 := Aside0.mk hr1
    have hb := of_decide_eq_true hR
    have hn1 : l0_0.length ≤ 16384 := hb.2.1
    have e1 : (l0_0.length : Int) % 4294967296 = l0_0.length := by omega
    have e2 : a0_1 % 4294967296 = a0_1 := by omega
    clear h hr1
    go_enter Try.func13, Try.ntmps13
    go_wp2_with (first | ((with_reducible refine gate_dst (N := 1) rfl ?_); refine aw_box rfl rfl rfl HA ?_; clear HA; intro bx W_ HA; simp only [Act.put, List.setIfInBounds_toArray, List.set_cons_succ, List.set_cons_zero]) | ((with_reducible refine gate_dst (N := 8) rfl ?_); refine aw_newv (fun g => .slice (some ⟨g, 0, none⟩) 4 4) 5 [.int .u8 67, .int .u8 77, .int .u8 76, .int .u8 49] rfl (fun W => by first | (go_simp; done) | (go_simp; rfl) | kernel_rfl) HA ?_; clear HA; intro g0 W_ HA; simp only [Act.put, List.setIfInBounds_toArray, List.set_cons_succ, List.set_cons_zero]) | ((with_reducible refine gate_dst (N := 9) rfl ?_); refine aw_mark 0 Try.underlying32 Try.underlying5 rfl rfl rfl HA rfl ?_; clear HA; intro W_ HA; dsimp only [List.set, List.take, List.cons_append, List.nil_append] at HA; simp only [Act.put, List.setIfInBounds_toArray, List.set_cons_succ, List.set_cons_zero]) | ((with_reducible refine gate_dst (N := 17) rfl ?_); refine aw_newv (fun g => .slice (some ⟨g, 0, none⟩) 2 2) 50 [.int .u32 (l0_0.length : Int), .int .u32 a0_1] rfl (fun W => by first | (go_simp; done) | (go_simp; rfl) | kernel_rfl) HA ?_; clear HA; intro g1 W_ HA; simp only [Act.put, List.setIfInBounds_toArray, List.set_cons_succ, List.set_cons_zero]) | ((with_reducible refine gate_dst (N := 27) rfl ?_); refine aw_newv (fun g => .slice (some ⟨g, 0, none⟩) 1 1) 50 [.int .u32 sm] rfl (fun W => by first | (go_simp; done) | (go_simp; rfl) | kernel_rfl) HA ?_; clear HA; intro g2 W_ HA; simp only [Act.put, List.setIfInBounds_toArray, List.set_cons_succ, List.set_cons_zero]) | (go_at_call 15; refine (image_Right.calls A0_0 c0_0 l0_0 a0_1 _ _ (HA.1.reads HR0.out) hc0_0 hright).mono ?_; rintro e W_ ⟨rfl, hb_⟩; replace HA := HA.call hb_; clear hb_) | (go_at_call 23; have hq := img_put1 (l0_0.length : Int) a0_1 HA; refine hq.mono ?_; clear hq; clear HA; rintro e W_ ⟨v1, Lv1, rfl, hown1, HA⟩; obtain ⟨b1, hb1⟩ : ∃ b, [67, 77, 76, 49] ++ putsB [(l0_0.length : Int), a0_1] = b := ⟨_, rfl⟩; rw [hb1] at hown1; have HB1 := Aside0.mk hb1; clear hb1; obtain ⟨A1_, c1_, rfl⟩ := img_form hown1; dsimp only [List.cons_append, List.nil_append] at HA) | (go_at_call 23; have hq := img_put.calls (R := [(g0, _), (bx, _), (g1, _)]) b1 A0_0 c0_0 l0_0 hown1 (fun W' Lv' h => h.1.reads HR0.out) hc0_0 (by omega) (by rw [← HB1.out]; simp [putsB_len]) HA; refine hq.mono ?_; clear hq; clear HA; rintro e W_ ⟨v2, Lv2, rfl, hown2, HA⟩; obtain ⟨b2, hb2⟩ : ∃ b, b1 ++ putsB l0_0 = b := ⟨_, rfl⟩; rw [hb2] at hown2; have HI := Aside0.mk (show b2 = imgHead l0_0 a0_1 by rw [← hb2, ← HB1.out]; rfl); clear hb2; obtain ⟨A2_, c2_, rfl⟩ := img_form hown2; dsimp only [List.cons_append, List.nil_append] at HA) | (go_at_call 23; have hq := img_put3 (R := [(gs, _), (g0, _), (bx, _), (g1, _)]) b2 sm hown2 (by rw [HI.out, imgHead_len]; omega) HA; refine hq.mono ?_; clear hq; clear HA; rintro e W_ ⟨v3, Lv3, rfl, hown3, HA⟩) | (go_at_call 24; refine (img_adder.calls _).mono ?_; rintro e W_ ⟨gs, rfl, hk_⟩; replace HA := HA.fresh hk_; clear hk_; dsimp only [List.cons_append, List.nil_append] at HA) | (go_at_call 32; have hq := img_sum.calls (S := noS) 1 (by omega) A2_ c2_ b2 (fun W' s' h => (hown2.reads h (fun x hx => by simp [hx])).1) (by rw [HI.out]; exact imgHead_byte) (hown2.reads HA (fun x hx => by simp [hx])).2 (by rw [HI.out, imgHead_len]; omega) HA; refine hq.mono ?_; clear hq; clear HA; rintro e W_ ⟨rfl, HA⟩; obtain ⟨sm, hsm⟩ : ∃ sm, sumB 1 b2 = sm := ⟨_, rfl⟩; rw [hsm] at HA ⊢; have HSM := Aside0.mk hsm; clear hsm) | ((with_reducible refine gate_ld rfl ?_); (first | refine aw_loadW 0 (t := 27) rfl rfl HA rfl rfl ?_ ?_ | refine aw_load 0 rfl rfl HA rfl rfl rfl ?_ ?_ | refine aw_load 1 rfl rfl HA rfl rfl rfl ?_ ?_ | refine aw_load 2 rfl rfl HA rfl rfl rfl ?_ ?_ | refine aw_load 3 rfl rfl HA rfl rfl rfl ?_ ?_); kernel_rfl; simp only [Act.put, List.setIfInBounds_toArray, List.set_cons_succ, List.set_cons_zero]))
    go_ret2
    refine ⟨_, rfl, ?_, HA.below⟩
    rw [← HR1.out]
    have e : imgBytes l0_0 a0_1 = b2 ++ putsB [sm] := by unfold imgBytes; rw [← HI.out, HSM.out]
    rw [e]
    exact hown3.kdR HA (fun x hx => by simp [hx]) (fun _ _ => trivial)
end Go.Proofs.Ytbjfchkfhbpclaa.Q

--@needs XAw
--@needs XAwSl
--@needs XAwFrame

namespace Go.Proofs.Ytbjfchkfhbpclaa.Q
open Go.RowKit Go.Proofs.YtbjfchkfhbpclaaW.PrintWords Go.Proofs.YtbjfchkfhbpclaaW.PrintLast Go.Proofs.YtbjfchkfhbpclaaW.PrintMore
attribute [local go_sem] max2_int min2_int max_two min_two max_three min_three max_four min_four   -- for this text's walks alone
set_option linter.unusedVariables false
set_option linter.unusedSimpArgs false

def num4 (l : List Int) : Int := rd l 0 * 16777216 + rd l 1 * 65536 + rd l 2 * 256 + rd l 3
theorem img_or (a b : Nat) (ha : a < 4294967296) (hb : b < 4294967296) : bits .or .u32 (a : Int) (b : Int) = ((a ||| b : Nat) : Int) := by
  have hx : a ||| b < 2 ^ 32 := Nat.or_lt_two_pow (by omega) (by omega)
  have e : bits .or .u32 (a : Int) (b : Int) = IntKind.u32.wrap ((BitVec.ofInt 32 (a : Int) ||| BitVec.ofInt 32 (b : Int)).toNat : Int) := rfl
  rw [e, BitVec.toNat_or, BitVec.ofInt_natCast, BitVec.ofInt_natCast, BitVec.toNat_ofNat, BitVec.toNat_ofNat, Nat.mod_eq_of_lt (by omega), Nat.mod_eq_of_lt (by omega)]
  simp [IntKind.wrap, IntKind.signed, IntKind.bits]
  omega
theorem img_or4 (a b c d : Int) (ha : 0 ≤ a ∧ a < 256) (hb : 0 ≤ b ∧ b < 256) (hc : 0 ≤ c ∧ c < 256) (hd : 0 ≤ d ∧ d < 256) : bits .or .u32 (bits .or .u32 (bits .or .u32 (a * 16777216) (b * 65536)) (c * 256)) d = a * 16777216 + b * 65536 + c * 256 + d := by
  obtain ⟨a, rfl⟩ := Int.eq_ofNat_of_zero_le ha.1
  obtain ⟨b, rfl⟩ := Int.eq_ofNat_of_zero_le hb.1
  obtain ⟨c, rfl⟩ := Int.eq_ofNat_of_zero_le hc.1
  obtain ⟨d, rfl⟩ := Int.eq_ofNat_of_zero_le hd.1
  have h1 : (a * 16777216) ||| (b * 65536) = a * 16777216 + b * 65536 := by
    have h := Nat.two_pow_add_eq_or_of_lt (i := 24) (b := b * 65536) (by simp only [Nat.reducePow]; omega) a
    simp only [Nat.reducePow] at h
    rw [show 16777216 * a = a * 16777216 from Nat.mul_comm _ _] at h
    exact h.symm
  have h2 : (a * 16777216 + b * 65536) ||| (c * 256) = a * 16777216 + b * 65536 + c * 256 := by
    have h := Nat.two_pow_add_eq_or_of_lt (i := 16) (b := c * 256) (by simp only [Nat.reducePow]; omega) (a * 256 + b)
    simp only [Nat.reducePow] at h
    rw [show 65536 * (a * 256 + b) = a * 16777216 + b * 65536 by omega] at h
    exact h.symm
  have h3 : (a * 16777216 + b * 65536 + c * 256) ||| d = a * 16777216 + b * 65536 + c * 256 + d := by
    have h := Nat.two_pow_add_eq_or_of_lt (i := 8) (b := d) (by simp only [Nat.reducePow]; omega) (a * 65536 + b * 256 + c)
    simp only [Nat.reducePow] at h
    rw [show 256 * (a * 65536 + b * 256 + c) = a * 16777216 + b * 65536 + c * 256 by omega] at h
    exact h.symm
  rw [show (a : Int) * 16777216 = ((a * 16777216 : Nat) : Int) by omega, show (b : Int) * 65536 = ((b * 65536 : Nat) : Int) by omega, show (c : Int) * 256 = ((c * 256 : Nat) : Int) by omega,
    img_or _ _ (by omega) (by omega), h1, img_or _ _ (by omega) (by omega), h2, img_or _ _ (by omega) (by omega), h3]
  omega
theorem rd_byte {l : List Int} (h : ∀ x ∈ l, 0 ≤ x ∧ x < 256) (i : Nat) : 0 ≤ rd l i ∧ rd l i < 256 := by
  unfold rd
  rw [Int.toNat_natCast, List.getD_eq_getElem?_getD]
  by_cases hl : i < l.length
  · rw [List.getElem?_eq_getElem hl]; exact h _ (List.getElem_mem hl)
  · rw [List.getElem?_eq_none (by omega)]; exact ⟨by decide, by decide⟩
section
variable {α : Type} {P : Program}
/-- a cut with a room of its own: from j to the end -/
theorem img_drop3 (enc : α → Value) (d : α) (t e : TypeId) {i : TypeInfo} (ht : P.underlying t = some (.slice e)) (hi : P.info? e = some i) (hsz : i.size = 1) (A : Option Addr) (c : Nat) (xs : List α) (j : Nat) (hm : j ≤ xs.length) (hc : xs.length ≤ c) :
    ∃ A' : Option Addr, (∀ W : World, (Instr.slice t (.slice A xs.length c) (some (.int .i64 (j : Int))) (some (.int .i64 (xs.length : Int))) (some (.int .i64 (xs.length : Int)))).run P W = .ok (.slice A' (xs.drop j).length (xs.drop j).length) W) ∧
      (∀ w : World, ReadsOf enc d w A xs.length xs → ReadsOf enc d w A' (xs.drop j).length (xs.drop j)) := by
  have hl : (xs.drop j).length = xs.length - j := List.length_drop
  refine ⟨if xs.length = j then A else A.map (·.add j), fun W => ?_, fun w h => ?_⟩
  · have hel : P.elem t = e := by simp [Program.elem, ht]
    have hu : P.underlying t = some (.slice (P.elem t)) := by rw [hel]; exact ht
    rw [run_slice_lhm W t A xs.length c hu .i64 .i64 .i64 (j : Int) xs.length xs.length (by omega) (by omega) (by omega) (by omega), hel, hl]
    simp [sizeOf, typeInfo, hi, hsz, sliced, Result.andThen]
  · have h2 := h.drop_ (c := xs.length) j (by omega) (by omega)
    rw [hl]
    exact h2
end
set_option maxHeartbeats 8000000 in
set_option maxRecDepth 100000 in
theorem img_take.calls {S : Nat → Prop} {w W : World} {R : List (Nat × Blk)} {rx : Nat} (A : Option Addr) (c : Nat) (l : List Int) (h4 : 4 ≤ l.length) (hl : l.length ≤ 1000000) (hby : ∀ x ∈ l, 0 ≤ x ∧ x < 256) (hr : ∀ W' v, Aw S w W' ((rx, .c 32 [v]) :: R) → Kd.C (Kd.int .u8) W' A l.length l) (hc : l.length ≤ c) (HA : Aw S w W ((rx, .c 32 [.slice A l.length c]) :: R)) :
    Calls Try.prog 27 #[.pointer (some ⟨rx, 0, none⟩)] W fun e W' => ∃ A', e = .returned (.int .u32 (num4 l)) ∧ Aw S w W' ((rx, .c 32 [.slice A' (l.drop 4).length (l.drop 4).length]) :: R) ∧ ∀ V, Kd.C (Kd.int .u8) V A l.length l → Kd.C (Kd.int .u8) V A' (l.drop 4).length (l.drop 4) := by
  obtain ⟨inf, hi, hsz⟩ := Option.map_eq_some_iff.1 (show (Try.prog.info? 5).map (·.size) = some 1 by kernel_rfl)
  obtain ⟨A', hcut, hread⟩ := img_drop3 (P := Try.prog) (Value.int .u8) 0 32 5 Try.underlying32 hi hsz A c l 4 h4 hc
  have hb0 := rd_byte hby 0
  have hb1 := rd_byte hby 1
  have hb2 := rd_byte hby 2
  have hb3 := rd_byte hby 3
  have HR := Lib.hid hr
  have HRD := Lib.hid hread
  have hO := img_or4 _ _ _ _ hb0 hb1 hb2 hb3
  obtain ⟨D, hD⟩ : ∃ D, l.drop 4 = D := ⟨_, rfl⟩
  rw [hD] at hcut HRD ⊢
  simp only [show ((4 : Nat) : Int) = 4 from rfl] at hcut
  have hN : rd l ((0 : Nat) : Int) * 16777216 + rd l ((1 : Nat) : Int) * 65536 + rd l ((2 : Nat) : Int) * 256 + rd l ((3 : Nat) : Int) = num4 l := rfl
  rw [hN] at hO
  obtain ⟨ad, e, x0⟩ := Kd.at_int (hr _ _ HA) 0 (by omega) (by omega)
  subst e
  have X := fun W' v (h : Aw S w W' ((rx, .c 32 [v]) :: R)) (i : Nat) (hi : i < 4) => show W'.cell? (ad.add i) = some (.int .u8 (rd l i)) by
    obtain ⟨ad2, e, x⟩ := Kd.at_int (HR.out _ _ h) (i : Int) (by omega) (by omega)
    injection e with e
    subst e
    simpa using x
  obtain ⟨r0, e0⟩ : ∃ r, rd l ((0 : Nat) : Int) = r := ⟨_, rfl⟩
  obtain ⟨r1, e1⟩ : ∃ r, rd l ((1 : Nat) : Int) = r := ⟨_, rfl⟩
  obtain ⟨r2, e2⟩ : ∃ r, rd l ((2 : Nat) : Int) = r := ⟨_, rfl⟩
  obtain ⟨r3, e3⟩ : ∃ r, rd l ((3 : Nat) : Int) = r := ⟨_, rfl⟩
  rw [e0] at hb0 hO
  rw [e1] at hb1 hO
  rw [e2] at hb2 hO
  rw [e3] at hb3 hO
  have HO := Lib.hid hO
  have X' := Lib.hid X
  obtain ⟨n, hn⟩ : ∃ n, l.length = n := ⟨_, rfl⟩
  have k0 : 0 < n := by omega
  have k1 : (1 : Int) < (n : Int) := by omega
  have k2 : (2 : Int) < (n : Int) := by omega
  have k3 : (3 : Int) < (n : Int) := by omega
  rw [hn] at hcut HA HRD h4 hl hc ⊢
  clear hr hread hN hO X x0 hi hsz hD hby HR hn
  go_enter Try.func27, Try.ntmps27
  go_wp2_with (first | ((with_reducible refine gate_ld rfl ?_); (refine aw_load 0 rfl rfl HA rfl rfl rfl ?_ ?_); kernel_rfl; simp only [Act.put, List.setIfInBounds_toArray, List.set_cons_succ, List.set_cons_zero]) | ((with_reducible refine gate_st rfl ?_); (refine aw_store 0 (v := .slice _ _ _) rfl rfl rfl rfl rfl HA rfl rfl rfl ?_ ?_); kernel_rfl; clear HA; intro W_ HA; dsimp only [List.set, List.take, List.cons_append, List.nil_append] at HA))
  have x0 := X'.out _ _ HA 0 (by decide)
  have x1 := X'.out _ _ HA 1 (by decide)
  have x2 := X'.out _ _ HA 2 (by decide)
  have x3 := X'.out _ _ HA 3 (by decide)
  rw [show ad.add 0 = ad by unfold Addr.add; split <;> simp_all] at x0
  rw [e0] at x0
  rw [show ad.add 1 = ⟨ad.block, ad.off + 1, none⟩ by rfl, e1] at x1
  rw [show ad.add 2 = ⟨ad.block, ad.off + 2, none⟩ by rfl, e2] at x2
  rw [show ad.add 3 = ⟨ad.block, ad.off + 3, none⟩ by rfl, e3] at x3
  clear e0 e1 e2 e3 hcut
  go_quiet (fail)
  clear x0 x1 x2 x3
  replace HA := HA.drewN nq
  go_wp2
  go_ret
  have m1 : r0 * 16777216 % 4294967296 = r0 * 16777216 := by omega
  have m2 : r1 * 65536 % 4294967296 = r1 * 65536 := by omega
  have m3 : r2 * 256 % 4294967296 = r2 * 256 := by omega
  have m0 : ∀ r : Int, 0 ≤ r ∧ r < 256 → r % 4294967296 = r := fun r h => by omega
  refine ⟨A', ?_, HA, fun V hV => Kd.C_of_reads (h1 := fun _ => rfl) (HRD.out V (Kd.reads_of_C hV))⟩
  first | (simp only [m0 _ hb0, m0 _ hb1, m0 _ hb2, m0 _ hb3, m1, m2, m3, HO.out]; done) | (rw [← HO.out]; simp [m0 _ hb0, m0 _ hb1, m0 _ hb2, m0 _ hb3, m1, m2, m3])
end Go.Proofs.Ytbjfchkfhbpclaa.Q

--@needs XAw
--@needs XAwSl
--@needs XAwFrame
--@needs XHimgPut
--@needs XHimgSum
--@needs XHimgTk
--@needs XAwReg
--@uses camlet/image.Right
namespace Go.Proofs.Ytbjfchkfhbpclaa.Q
open Go.RowKit Go.Proofs.YtbjfchkfhbpclaaW.PrintWords Go.Proofs.YtbjfchkfhbpclaaW.PrintLast Go.Proofs.YtbjfchkfhbpclaaW.PrintMore
attribute [local go_sem] max2_int min2_int max_two min_two max_three min_three max_four min_four   -- for this text's walks alone
set_option linter.unusedVariables false
set_option linter.unusedSimpArgs false

def nums (l : List Int) (n : Nat) : List Int := (List.range n).map fun i => num4 (l.drop (4 * i))
theorem nums_succ (l : List Int) (n : Nat) : nums l (n + 1) = nums l n ++ [num4 (l.drop (4 * n))] := by
  unfold nums
  rw [List.range_succ, List.map_append]
  rfl
theorem nums_len (l : List Int) (n : Nat) : (nums l n).length = n := by simp [nums]
theorem num4_range {l : List Int} (h : ∀ x ∈ l, 0 ≤ x ∧ x < 256) : 0 ≤ num4 l ∧ num4 l < 4294967296 := by
  have h0 := rd_byte h 0
  have h1 := rd_byte h 1
  have h2 := rd_byte h 2
  have h3 := rd_byte h 3
  have e : num4 l = rd l ((0 : Nat) : Int) * 16777216 + rd l ((1 : Nat) : Int) * 65536 + rd l ((2 : Nat) : Int) * 256 + rd l ((3 : Nat) : Int) := rfl
  rw [e]
  omega
def imgTake (l : List Int) : List Int × Int × Int :=
  if (l.length : Int) < 16 then ([], 0, 3) else
  if ¬ (strOfNums (l.take 4)).toList = ([67, 77, 76, 49] : List UInt8) then ([], 0, 3) else
  if 16384 < num4 (l.drop 4) then ([], 0, 4) else
  if ¬ (l.length : Int) = 16 + 4 * num4 (l.drop 4) then ([], 0, 3) else
  if ¬ num4 (l.drop (l.length - 4)) = sumB 1 (l.take (l.length - 4)) then ([], 0, 23) else
  if imgRight (nums (l.drop 12) (num4 (l.drop 4)).toNat) (num4 (l.drop 8)) = true then (nums (l.drop 12) (num4 (l.drop 4)).toNat, num4 (l.drop 8), 0) else ([], 0, 3)
def b8 (l : List Int) : Prop := l.length ≤ 1000000 ∧ ∀ x ∈ l, 0 ≤ x ∧ x < 256
instance (l : List Int) : Decidable (b8 l) := by unfold b8; infer_instance
def image_Take.f (l0 : List Int) : Option (List Int × Int × Int) := if b8 l0 then some (imgTake l0) else none
theorem b8_drop {l : List Int} (h : ∀ x ∈ l, 0 ≤ x ∧ x < 256) (n : Nat) : ∀ x ∈ l.drop n, 0 ≤ x ∧ x < 256 := fun x hx => h x (List.mem_of_mem_drop hx)
theorem u32_info : (Try.prog.info? 50).map (fun i => (i.zero, i.size, i.bytes)) = some (some (.int .u32 0), 1, 4) := by kernel_rfl
theorem img_zero (W : World) : (Instr.alloc 27 true (.tuple #[])).run Try.prog W = .ok (.pointer (some ⟨W.heap.size, 0, none⟩)) (W.alloc (.cells [.slice none 0 0, .int .i64 0].toArray 27 (0, 0))) := by kernel_rfl
theorem bs_zero (W : World) : (Instr.alloc 32 true (.tuple #[])).run Try.prog W = .ok (.pointer (some ⟨W.heap.size, 0, none⟩)) (W.alloc (.cells [.slice none 0 0].toArray 32 (0, 0))) := by kernel_rfl
theorem aw_conv {P : Program} {ops : Array Oper} {rest : List Oper} {o : Oper} {a : Act} {Q : Exit → Act → World → Prop} {W : World} {s d : TypeId} {x : Operand} {v u : Value} (ho : o.op = .convert s d x) (hx : a.eval x = u) (hw : Region.wanted o (yielded ops a.tmps) = true) (hrun : (convert s d u).run P W = .ok v W)
    (h : wpList P ops Q rest (a.put o.dst v) W) : wpList P ops Q (o :: rest) a W := by
  refine aw_ev hw ?_ h
  unfold execOp
  rw [ho]
  simp only [hx, Sem.run_bind, hrun]
  rfl
theorem aw_slice {P : Program} {ops : Array Oper} {rest : List Oper} {o : Oper} {a : Act} {Q : Exit → Act → World → Prop} {W : World} {t : TypeId} {x : Operand} {lo hi mx : Option Operand} {v : Value} {e : TypeId} (ht : P.underlying t = some (.slice e)) (ho : o.op = .slice t x lo hi mx) (hw : Region.wanted o (yielded ops a.tmps) = true) (hrun : (Instr.slice t (a.eval x) (lo.map a.eval) (hi.map a.eval) (mx.map a.eval)).run P W = .ok v W)
    (h : wpList P ops Q rest (a.put o.dst v) W) : wpList P ops Q (o :: rest) a W := by
  refine aw_ev hw ?_ h
  unfold execOp
  rw [ho]
  simp only [Instr.sliceAt, Sem.run_bind, run_underlying ht, Result.andThen_ok, hrun]
  rfl
/-- take, the box behind another block -/
theorem img_take2.calls {S : Nat → Prop} {w W : World} {R : List (Nat × Blk)} {b1 : Nat × Blk} {rx : Nat} (A : Option Addr) (c : Nat) (l : List Int) (h4 : 4 ≤ l.length) (hl : l.length ≤ 1000000) (hby : ∀ x ∈ l, 0 ≤ x ∧ x < 256) (hr : ∀ W', Kp S w W' → Kd.C (Kd.int .u8) W' A l.length l) (hc : l.length ≤ c) (HA : Aw S w W (b1 :: (rx, .c 32 [.slice A l.length c]) :: R)) :
    Calls Try.prog 27 #[.pointer (some ⟨rx, 0, none⟩)] W fun e W' => ∃ A', e = .returned (.int .u32 (num4 l)) ∧ Aw S w W' (b1 :: (rx, .c 32 [.slice A' (l.drop 4).length (l.drop 4).length]) :: R) ∧ ∀ V, Kd.C (Kd.int .u8) V A l.length l → Kd.C (Kd.int .u8) V A' (l.drop 4).length (l.drop 4) :=
  (img_take.calls A c l h4 hl hby (fun W' v h => hr W' h.1) hc (HA.perm (List.Perm.swap _ _ _))).mono (fun e W' ⟨A', he, h, hx⟩ => ⟨A', he, h.perm (List.Perm.swap _ _ _), hx⟩)
/-- take, the box behind two others -/
theorem img_take3.calls {S : Nat → Prop} {w W : World} {R : List (Nat × Blk)} {b0 b1 : Nat × Blk} {rx : Nat} (A : Option Addr) (c : Nat) (l : List Int) (h4 : 4 ≤ l.length) (hl : l.length ≤ 1000000) (hby : ∀ x ∈ l, 0 ≤ x ∧ x < 256) (hr : ∀ W', Kp S w W' → Kd.C (Kd.int .u8) W' A l.length l) (hc : l.length ≤ c) (HA : Aw S w W (b0 :: b1 :: (rx, .c 32 [.slice A l.length c]) :: R)) :
    Calls Try.prog 27 #[.pointer (some ⟨rx, 0, none⟩)] W fun e W' => ∃ A', e = .returned (.int .u32 (num4 l)) ∧ Aw S w W' (b0 :: b1 :: (rx, .c 32 [.slice A' (l.drop 4).length (l.drop 4).length]) :: R) ∧ ∀ V, Kd.C (Kd.int .u8) V A l.length l → Kd.C (Kd.int .u8) V A' (l.drop 4).length (l.drop 4) :=
  (img_take2.calls A c l h4 hl hby hr hc (HA.perm (List.Perm.cons _ (List.Perm.swap _ _ _)) : Aw S w W (b0 :: (rx, .c 32 [.slice A l.length c]) :: b1 :: R))).mono (fun e W' ⟨A', he, h, hx⟩ => ⟨A', he, h.perm (List.Perm.cons _ (List.Perm.swap _ _ _)), hx⟩)
set_option maxHeartbeats 8000000 in
set_option maxRecDepth 100000 in
theorem image_Take.calls (A0 : Option Addr) (c0 : Nat) (l0 : List Int) (r1 : List Int) (r2 : Int) (r3 : Int) (w : World) (hr0 : Kd.C (Kd.int .u8) w A0 l0.length l0) (hc0 : l0.length ≤ c0) (h : image_Take.f l0 = some (r1, r2, r3)) :
    Calls Try.prog 17 #[.slice A0 l0.length c0] w fun e w' => ∃ v0_ : Value, e = .returned (.tuple #[.agg #[v0_, .int .i64 r2], .int .i64 r3]) ∧ Kd.R (Kd.int .u32) 50 w' w.heap.size (fun _ => True) v0_ r1 ∧ Below w.heap.size w w' := by
  have HA := Aw.start noS w
  have HR0 : RowKit.Hid (∀ W', Kp noS w W' → Kd.C (Kd.int .u8) W' A0 l0.length l0) := Lib.hid (fun W' hk => hk.reads hr0)
  unfold image_Take.f at h
  by_cases hok : b8 l0
  case neg => rw [if_neg hok] at h; cases h
  rw [if_pos hok] at h
  replace h := Option.some.inj h
  have hl0 := hok.1
  have HBY := Lib.hid hok.2
  clear hok
  unfold imgTake at h
  by_cases h16 : (l0.length : Int) < 16
  · rw [if_pos h16] at h
    simp only [Prod.mk.injEq] at h
    obtain ⟨rfl, rfl, rfl⟩ := h
    have c1 := decide_eq_true h16
    clear h16 hr0
    go_enter Try.func17, Try.ntmps17
    go_wp2_with (first | ((with_reducible refine gate_dst (N := 2) rfl ?_); refine aw_alloc rfl rfl img_zero HA ?_; clear HA; intro i2 W_ HA; simp only [Act.put, List.setIfInBounds_toArray, List.set_cons_succ, List.set_cons_zero]) | ((with_reducible refine gate_ld rfl ?_); (first | refine aw_loadW 0 (t := 27) rfl rfl HA rfl rfl ?_ ?_ | refine aw_load 0 rfl rfl HA rfl rfl rfl ?_ ?_); kernel_rfl; simp only [Act.put, List.setIfInBounds_toArray, List.set_cons_succ, List.set_cons_zero]) | ((with_reducible refine gate_st rfl ?_); (first | refine aw_storeW 0 (t := 27) rfl rfl rfl rfl HA rfl rfl rfl ?_ rfl ?_ | refine aw_store 0 (v := .slice _ _ _) rfl rfl rfl rfl rfl HA rfl rfl rfl ?_ ?_); kernel_rfl; clear HA; intro W_ HA; dsimp only [List.set, List.take, List.cons_append, List.nil_append] at HA))
    (try simp only [Exit.inBlock, Exit.then]); (try rw [Exit.noGoto_ret]); refine bodyPost_ret (results_aw2 (i := 0) rfl _ HA rfl rfl rfl (by kernel_rfl)) rfl ?_; exact ⟨_, rfl, (Own.nil _ _).kdR (l := []) HA (by simp) (fun _ _ => trivial), HA.below⟩
  rw [if_neg h16] at h
  have c1 := decide_eq_false h16
  have h16' : 16 ≤ l0.length := by omega
  clear h16
  obtain ⟨inf, hi, hsz⟩ := Option.map_eq_some_iff.1 (show (Try.prog.info? 5).map (·.size) = some 1 by kernel_rfl)
  obtain ⟨hcutM, hAM, hCM⟩ := print_take_of (P := Try.prog) (Value.int .u8) 0 32 5 .i64 Try.underlying32 hi hsz A0 c0 l0 4 (by omega) (by omega) hc0
  have e4 : ((4 : Int).toNat) = 4 := rfl
  rw [e4] at hcutM hAM
  obtain ⟨T4, hT4⟩ : ∃ T, l0.take 4 = T := ⟨_, rfl⟩
  rw [hT4] at hcutM hAM h
  have hst : ∀ W, Kp noS w W → (convert 32 9 (.slice A0 T4.length c0)).run Try.prog W = .ok (.string (strOfNums T4)) W := fun W hk => Kd.C_string (P := Try.prog) (A := A0) (c := c0) Try.underlying32 Try.underlying5 Try.underlying9 (Kd.C_of_reads (h1 := fun _ => rfl) (hAM _ (Kd.reads_of_C (HR0.out W hk))))
  obtain ⟨ms, hms⟩ : ∃ ms, strOfNums T4 = ms := ⟨_, rfl⟩
  rw [hms] at h hst
  have HST := Lib.hid hst
  have hcutM' := Lib.hid hcutM
  clear hcutM
  have hcutM := hcutM'
  clear hcutM'
  clear hst hr0 hAM hCM hms hT4
  by_cases hm : ms.toList = ([67, 77, 76, 49] : List UInt8)
  case neg =>
    rw [if_pos hm] at h
    simp only [Prod.mk.injEq] at h
    obtain ⟨rfl, rfl, rfl⟩ := h
    have cm := bne_iff_ne.mpr hm
    have cm2 := beq_eq_false_iff_ne.mpr hm
    clear hm h16' hi hsz
    go_enter Try.func17, Try.ntmps17
    go_wp2_with (first | ((with_reducible refine gate_dst (N := 13) rfl ?_); refine aw_slice Try.underlying32 rfl rfl (hcutM.out _) ?_; simp only [Act.put, List.setIfInBounds_toArray, List.set_cons_succ, List.set_cons_zero]) | ((with_reducible refine gate_dst (N := 14) rfl ?_); refine aw_conv rfl rfl rfl (HST.out _ HA.1) ?_; simp only [Act.put, List.setIfInBounds_toArray, List.set_cons_succ, List.set_cons_zero]) | ((with_reducible refine gate_dst (N := 2) rfl ?_); refine aw_alloc rfl rfl img_zero HA ?_; clear HA; intro i2 W_ HA; simp only [Act.put, List.setIfInBounds_toArray, List.set_cons_succ, List.set_cons_zero]) | ((with_reducible refine gate_ld rfl ?_); (first | refine aw_loadW 0 (t := 27) rfl rfl HA rfl rfl ?_ ?_ | refine aw_load 0 rfl rfl HA rfl rfl rfl ?_ ?_); kernel_rfl; simp only [Act.put, List.setIfInBounds_toArray, List.set_cons_succ, List.set_cons_zero]) | ((with_reducible refine gate_st rfl ?_); (first | refine aw_storeW 0 (t := 27) rfl rfl rfl rfl HA rfl rfl rfl ?_ rfl ?_ | refine aw_store 0 (v := .slice _ _ _) rfl rfl rfl rfl rfl HA rfl rfl rfl ?_ ?_); kernel_rfl; clear HA; intro W_ HA; dsimp only [List.set, List.take, List.cons_append, List.nil_append] at HA))
    (try simp only [Exit.inBlock, Exit.then]); (try rw [Exit.noGoto_ret]); refine bodyPost_ret (results_aw2 (i := 0) rfl _ HA rfl rfl rfl (by kernel_rfl)) rfl ?_; exact ⟨_, rfl, (Own.nil _ _).kdR (l := []) HA (by simp) (fun _ _ => trivial), HA.below⟩
  rw [if_neg (fun h => h hm)] at h
  have cm := bne_eq_false_iff_eq.mpr hm
  have cm2 := beq_iff_eq.mpr hm
  obtain ⟨A1, hcut1, hrd1, hC1⟩ := print_drop_of (P := Try.prog) (Value.int .u8) 0 32 5 .i64 Try.underlying32 hi hsz A0 c0 l0 4 (by omega) (by omega) hc0
  rw [e4] at hcut1 hC1 hrd1
  obtain ⟨D1, hD1⟩ : ∃ D, l0.drop 4 = D := ⟨_, rfl⟩
  obtain ⟨D2, hD2⟩ : ∃ D, l0.drop 8 = D := ⟨_, rfl⟩
  obtain ⟨D3, hD3⟩ : ∃ D, l0.drop 12 = D := ⟨_, rfl⟩
  have HL1 : Aside0 (D1.length + 4 = l0.length) := ⟨by rw [← hD1, List.length_drop]; omega⟩
  have HL2 : Aside0 (D2.length + 8 = l0.length) := ⟨by rw [← hD2, List.length_drop]; omega⟩
  have HL3 : Aside0 (D3.length + 12 = l0.length) := ⟨by rw [← hD3, List.length_drop]; omega⟩
  have HD2 : Aside0 (D1.drop 4 = D2) := ⟨by rw [← hD1, ← hD2, List.drop_drop]⟩
  have HD3 : Aside0 (D2.drop 4 = D3) := ⟨by rw [← hD2, ← hD3, List.drop_drop]⟩
  have HDD : Aside0 (l0.drop 12 = D3) := ⟨hD3⟩
  have HBY1 := Lib.hid (show ∀ x ∈ D1, 0 ≤ x ∧ x < 256 by rw [← hD1]; exact b8_drop HBY.out 4)
  have HBY2 := Lib.hid (show ∀ x ∈ D2, 0 ≤ x ∧ x < 256 by rw [← hD2]; exact b8_drop HBY.out 8)
  have HBY3 := Lib.hid (show ∀ x ∈ D3, 0 ≤ x ∧ x < 256 by rw [← hD3]; exact b8_drop HBY.out 12)
  rw [hD1] at hcut1 hC1 hrd1 h
  rw [hD2, hD3] at h
  have HRD1 : RowKit.Hid (∀ V, Kp noS w V → Kd.C (Kd.int .u8) V A1 D1.length D1) := Lib.hid (fun V hV => Kd.C_of_reads (h1 := fun _ => rfl) (hrd1 V (Kd.reads_of_C (HR0.out V hV))))
  have hnr := num4_range HBY1.out
  have her := num4_range HBY2.out
  obtain ⟨nn, hnn⟩ : ∃ nn, num4 D1 = nn := ⟨_, rfl⟩
  obtain ⟨ee, hee⟩ : ∃ ee, num4 D2 = ee := ⟨_, rfl⟩
  rw [hnn] at hnr h
  rw [hee] at her h
  have HNN := Aside0.mk hnn
  have HEE := Aside0.mk hee
  have hcut1' := Lib.hid hcut1
  clear hcut1
  have hcut1 := hcut1'
  clear hcut1'
  clear hrd1 hm hi hsz hD1 hD2 hD3 hnn hee e4
  by_cases hn : 16384 < nn
  · rw [if_pos hn] at h
    simp only [Prod.mk.injEq] at h
    obtain ⟨rfl, rfl, rfl⟩ := h
    have cn := decide_eq_true hn
    clear hn hnr her
    go_enter Try.func17, Try.ntmps17
    go_wp2_with (first | ((with_reducible refine gate_dst (N := 13) rfl ?_); refine aw_slice Try.underlying32 rfl rfl (hcutM.out _) ?_; simp only [Act.put, List.setIfInBounds_toArray, List.set_cons_succ, List.set_cons_zero]) | ((with_reducible refine gate_dst (N := 19) rfl ?_); refine aw_slice Try.underlying32 rfl rfl (hcut1.out _) ?_; simp only [Act.put, List.setIfInBounds_toArray, List.set_cons_succ, List.set_cons_zero]) | ((with_reducible refine gate_dst (N := 14) rfl ?_); refine aw_conv rfl rfl rfl (HST.out _ HA.1) ?_; simp only [Act.put, List.setIfInBounds_toArray, List.set_cons_succ, List.set_cons_zero]) | ((with_reducible refine gate_dst (N := 2) rfl ?_); refine aw_alloc rfl rfl img_zero HA ?_; clear HA; intro i2 W_ HA; simp only [Act.put, List.setIfInBounds_toArray, List.set_cons_succ, List.set_cons_zero]) | ((with_reducible refine gate_dst (N := 4) rfl ?_); refine aw_alloc rfl rfl bs_zero HA ?_; clear HA; intro rx W_ HA; simp only [Act.put, List.setIfInBounds_toArray, List.set_cons_succ, List.set_cons_zero]) | (go_at_call 27; have hq := img_take.calls A1 _ D1 (by have := HL1.out; omega) (by have := HL1.out; omega) HBY1.out (fun W' v h => HRD1.out W' h.1) hC1 HA; rw [HD2.out] at hq; (try rw [HNN.out] at hq); refine hq.mono ?_; clear hq; clear HA; rintro e W_ ⟨A2, rfl, HA, hrd⟩; have HRD2 : RowKit.Hid (∀ V, Kp noS w V → Kd.C (Kd.int .u8) V A2 D2.length D2) := Lib.hid (fun V hV => hrd V (HRD1.out V hV)); clear hrd) | (go_at_call 27; have hq := img_take.calls A2 _ D2 (by have := HL2.out; omega) (by have := HL2.out; omega) HBY2.out (fun W' v h => HRD2.out W' h.1) (Nat.le_refl _) HA; rw [HD3.out] at hq; (try rw [HEE.out] at hq); refine hq.mono ?_; clear hq; clear HA; rintro e W_ ⟨A3, rfl, HA, hrd⟩; have HRD3 : RowKit.Hid (∀ V, Kp noS w V → Kd.C (Kd.int .u8) V A3 D3.length D3) := Lib.hid (fun V hV => hrd V (HRD2.out V hV)); clear hrd) | ((with_reducible refine gate_ld rfl ?_); (first | refine aw_loadW 0 (t := 27) rfl rfl HA rfl rfl ?_ ?_ | refine aw_loadW 1 (t := 27) rfl rfl HA rfl rfl ?_ ?_ | refine aw_load 0 rfl rfl HA rfl rfl rfl ?_ ?_ | refine aw_load 1 rfl rfl HA rfl rfl rfl ?_ ?_); kernel_rfl; simp only [Act.put, List.setIfInBounds_toArray, List.set_cons_succ, List.set_cons_zero]) | ((with_reducible refine gate_st rfl ?_); (first | refine aw_storeW 0 (t := 27) rfl rfl rfl rfl HA rfl rfl rfl ?_ rfl ?_ | refine aw_storeW 1 (t := 27) rfl rfl rfl rfl HA rfl rfl rfl ?_ rfl ?_ | refine aw_store 0 (v := .slice _ _ _) rfl rfl rfl rfl rfl HA rfl rfl rfl ?_ ?_ | refine aw_store 1 (v := .slice _ _ _) rfl rfl rfl rfl rfl HA rfl rfl rfl ?_ ?_); kernel_rfl; clear HA; intro W_ HA; dsimp only [List.set, List.take, List.cons_append, List.nil_append] at HA))
    (try simp only [Exit.inBlock, Exit.then]); (try rw [Exit.noGoto_ret]); refine bodyPost_ret (results_aw2 (i := 1) rfl _ HA rfl rfl rfl (by kernel_rfl)) rfl ?_; exact ⟨_, rfl, (Own.nil _ _).kdR (l := []) HA (by simp) (fun _ _ => trivial), HA.below⟩
  rw [if_neg hn] at h
  have cn := decide_eq_false hn
  obtain ⟨N, rfl⟩ := Int.eq_ofNat_of_zero_le hnr.1
  have hN : N ≤ 16384 := by omega
  have s1 : IntKind.i64.wrap (4 * (N : Int)) = 4 * (N : Int) := IntWalk.i64_in _ (by omega)
  have s2 : IntKind.i64.wrap (4 * (N : Int) + 4) = 4 * (N : Int) + 4 := IntWalk.i64_in _ (by omega)
  have s3 : IntKind.i64.wrap (N : Int) = (N : Int) := IntWalk.i64_in _ (by omega)
  have s4 : IntKind.i64.wrap ee = ee := IntWalk.i64_in _ (by omega)
  clear hn hnr
  by_cases hlen : (l0.length : Int) = 16 + 4 * (N : Int)
  case neg =>
    rw [if_pos hlen] at h
    simp only [Prod.mk.injEq] at h
    obtain ⟨rfl, rfl, rfl⟩ := h
    have cl := beq_eq_false_iff_ne.mpr (show (D3.length : Int) ≠ 4 * (N : Int) + 4 by have := HL3.out; omega)
    have cl2 := bne_iff_ne.mpr (show (D3.length : Int) ≠ 4 * (N : Int) + 4 by have := HL3.out; omega)
    clear hlen her hN
    go_enter Try.func17, Try.ntmps17
    go_wp2_with (first | ((with_reducible refine gate_dst (N := 13) rfl ?_); refine aw_slice Try.underlying32 rfl rfl (hcutM.out _) ?_; simp only [Act.put, List.setIfInBounds_toArray, List.set_cons_succ, List.set_cons_zero]) | ((with_reducible refine gate_dst (N := 19) rfl ?_); refine aw_slice Try.underlying32 rfl rfl (hcut1.out _) ?_; simp only [Act.put, List.setIfInBounds_toArray, List.set_cons_succ, List.set_cons_zero]) | ((with_reducible refine gate_dst (N := 14) rfl ?_); refine aw_conv rfl rfl rfl (HST.out _ HA.1) ?_; simp only [Act.put, List.setIfInBounds_toArray, List.set_cons_succ, List.set_cons_zero]) | ((with_reducible refine gate_dst (N := 2) rfl ?_); refine aw_alloc rfl rfl img_zero HA ?_; clear HA; intro i2 W_ HA; simp only [Act.put, List.setIfInBounds_toArray, List.set_cons_succ, List.set_cons_zero]) | ((with_reducible refine gate_dst (N := 4) rfl ?_); refine aw_alloc rfl rfl bs_zero HA ?_; clear HA; intro rx W_ HA; simp only [Act.put, List.setIfInBounds_toArray, List.set_cons_succ, List.set_cons_zero]) | (go_at_call 27; have hq := img_take.calls A1 _ D1 (by have := HL1.out; omega) (by have := HL1.out; omega) HBY1.out (fun W' v h => HRD1.out W' h.1) hC1 HA; rw [HD2.out] at hq; (try rw [HNN.out] at hq); refine hq.mono ?_; clear hq; clear HA; rintro e W_ ⟨A2, rfl, HA, hrd⟩; have HRD2 : RowKit.Hid (∀ V, Kp noS w V → Kd.C (Kd.int .u8) V A2 D2.length D2) := Lib.hid (fun V hV => hrd V (HRD1.out V hV)); clear hrd) | (go_at_call 27; have hq := img_take.calls A2 _ D2 (by have := HL2.out; omega) (by have := HL2.out; omega) HBY2.out (fun W' v h => HRD2.out W' h.1) (Nat.le_refl _) HA; rw [HD3.out] at hq; (try rw [HEE.out] at hq); refine hq.mono ?_; clear hq; clear HA; rintro e W_ ⟨A3, rfl, HA, hrd⟩; have HRD3 : RowKit.Hid (∀ V, Kp noS w V → Kd.C (Kd.int .u8) V A3 D3.length D3) := Lib.hid (fun V hV => hrd V (HRD2.out V hV)); clear hrd) | ((with_reducible refine gate_ld rfl ?_); (first | refine aw_loadW 0 (t := 27) rfl rfl HA rfl rfl ?_ ?_ | refine aw_loadW 1 (t := 27) rfl rfl HA rfl rfl ?_ ?_ | refine aw_load 0 rfl rfl HA rfl rfl rfl ?_ ?_ | refine aw_load 1 rfl rfl HA rfl rfl rfl ?_ ?_); kernel_rfl; simp only [Act.put, List.setIfInBounds_toArray, List.set_cons_succ, List.set_cons_zero]) | ((with_reducible refine gate_st rfl ?_); (first | refine aw_storeW 0 (t := 27) rfl rfl rfl rfl HA rfl rfl rfl ?_ rfl ?_ | refine aw_storeW 1 (t := 27) rfl rfl rfl rfl HA rfl rfl rfl ?_ rfl ?_ | refine aw_store 0 (v := .slice _ _ _) rfl rfl rfl rfl rfl HA rfl rfl rfl ?_ ?_ | refine aw_store 1 (v := .slice _ _ _) rfl rfl rfl rfl rfl HA rfl rfl rfl ?_ ?_); kernel_rfl; clear HA; intro W_ HA; dsimp only [List.set, List.take, List.cons_append, List.nil_append] at HA))
    (try simp only [Exit.inBlock, Exit.then]); (try rw [Exit.noGoto_ret]); refine bodyPost_ret (results_aw2 (i := 1) rfl _ HA rfl rfl rfl (by kernel_rfl)) rfl ?_; exact ⟨_, rfl, (Own.nil _ _).kdR (l := []) HA (by simp) (fun _ _ => trivial), HA.below⟩
  rw [if_neg (fun h => h hlen)] at h
  have hl3 : D3.length = 4 * N + 4 := by have := HL3.out; omega
  have cl := beq_iff_eq.mpr (show (D3.length : Int) = 4 * (N : Int) + 4 by omega)
  have cl2 := bne_eq_false_iff_eq.mpr (show (D3.length : Int) = 4 * (N : Int) + 4 by omega)
  have HL3' := Aside0.mk hl3
  have H := Aside0.mk h
  have HLEN := Aside0.mk hlen
  clear hlen h hl3 her
  go_enter Try.func17, Try.ntmps17
  go_wp2_with (first | ((with_reducible refine gate_dst (N := 13) rfl ?_); refine aw_slice Try.underlying32 rfl rfl (hcutM.out _) ?_; simp only [Act.put, List.setIfInBounds_toArray, List.set_cons_succ, List.set_cons_zero]) | ((with_reducible refine gate_dst (N := 19) rfl ?_); refine aw_slice Try.underlying32 rfl rfl (hcut1.out _) ?_; simp only [Act.put, List.setIfInBounds_toArray, List.set_cons_succ, List.set_cons_zero]) | ((with_reducible refine gate_dst (N := 14) rfl ?_); refine aw_conv rfl rfl rfl (HST.out _ HA.1) ?_; simp only [Act.put, List.setIfInBounds_toArray, List.set_cons_succ, List.set_cons_zero]) | ((with_reducible refine gate_dst (N := 2) rfl ?_); refine aw_alloc rfl rfl img_zero HA ?_; clear HA; intro i2 W_ HA; simp only [Act.put, List.setIfInBounds_toArray, List.set_cons_succ, List.set_cons_zero]) | ((with_reducible refine gate_dst (N := 4) rfl ?_); refine aw_alloc rfl rfl bs_zero HA ?_; clear HA; intro rx W_ HA; simp only [Act.put, List.setIfInBounds_toArray, List.set_cons_succ, List.set_cons_zero]) | ((with_reducible refine gate_dst (N := 7) rfl ?_); refine aw_alloc rfl rfl img_zero HA ?_; clear HA; intro ix W_ HA; simp only [Act.put, List.setIfInBounds_toArray, List.set_cons_succ, List.set_cons_zero]) | (go_at_call 27; have hq := img_take.calls A1 _ D1 (by have := HL1.out; omega) (by have := HL1.out; omega) HBY1.out (fun W' v h => HRD1.out W' h.1) hC1 HA; rw [HD2.out] at hq; (try rw [HNN.out] at hq); refine hq.mono ?_; clear hq; clear HA; rintro e W_ ⟨A2, rfl, HA, hrd⟩; have HRD2 : RowKit.Hid (∀ V, Kp noS w V → Kd.C (Kd.int .u8) V A2 D2.length D2) := Lib.hid (fun V hV => hrd V (HRD1.out V hV)); clear hrd) | (go_at_call 27; have hq := img_take.calls A2 _ D2 (by have := HL2.out; omega) (by have := HL2.out; omega) HBY2.out (fun W' v h => HRD2.out W' h.1) (Nat.le_refl _) HA; rw [HD3.out] at hq; (try rw [HEE.out] at hq); refine hq.mono ?_; clear hq; clear HA; rintro e W_ ⟨A3, rfl, HA, hrd⟩; have HRD3 : RowKit.Hid (∀ V, Kp noS w V → Kd.C (Kd.int .u8) V A3 D3.length D3) := Lib.hid (fun V hV => hrd V (HRD2.out V hV)); clear hrd) | ((with_reducible refine gate_ld rfl ?_); (first | refine aw_loadW 0 (t := 27) rfl rfl HA rfl rfl ?_ ?_ | refine aw_loadW 1 (t := 27) rfl rfl HA rfl rfl ?_ ?_ | refine aw_loadW 2 (t := 27) rfl rfl HA rfl rfl ?_ ?_ | refine aw_load 0 rfl rfl HA rfl rfl rfl ?_ ?_ | refine aw_load 1 rfl rfl HA rfl rfl rfl ?_ ?_ | refine aw_load 2 rfl rfl HA rfl rfl rfl ?_ ?_); kernel_rfl; simp only [Act.put, List.setIfInBounds_toArray, List.set_cons_succ, List.set_cons_zero]) | ((with_reducible refine gate_st rfl ?_); (first | refine aw_storeW 0 (t := 27) rfl rfl rfl rfl HA rfl rfl rfl ?_ rfl ?_ | refine aw_storeW 1 (t := 27) rfl rfl rfl rfl HA rfl rfl rfl ?_ rfl ?_ | refine aw_storeW 2 (t := 27) rfl rfl rfl rfl HA rfl rfl rfl ?_ rfl ?_ | refine aw_store 0 (v := .slice _ _ _) rfl rfl rfl rfl rfl HA rfl rfl rfl ?_ ?_ | refine aw_store 1 (v := .slice _ _ _) rfl rfl rfl rfl rfl HA rfl rfl rfl ?_ ?_ | refine aw_store 2 (v := .slice _ _ _) rfl rfl rfl rfl rfl HA rfl rfl rfl ?_ ?_); kernel_rfl; clear HA; intro W_ HA; dsimp only [List.set, List.take, List.cons_append, List.nil_append] at HA))
  clear cl cl2 cm cm2 cn s1 s2 s3 s4
  go_loopg [39] N (fun g i wx => ∃ (k : Nat) (v : Value) (Lv : List (Nat × Blk)) (A' : Option Addr) (Dk : List Int), k + g = N ∧ i = .int .u32 k ∧ Own 50 1 v k ((nums D3 k).map (Value.int .u32)) Lv ∧ Aside0 (D3.drop (4 * k) = Dk ∧ Dk.length + 4 * k = D3.length) ∧ RowKit.Hid (∀ V, Kp noS w V → Kd.C (Kd.int .u8) V A' Dk.length Dk) ∧ Aw noS w wx ((ix, .c 27 [v, .int .i64 ee]) :: (rx, .c 32 [.slice A' Dk.length Dk.length]) :: (i2, .c 27 [.slice none 0 0, .int .i64 0]) :: Lv))
  case atStart => exact ⟨0, _, [], A3, D3, by omega, rfl, Own.nil _ _, ⟨by simp, by omega⟩, HRD3, HA⟩
  case round =>
    clear HA
    obtain ⟨k, v, Lv, A', Dk, hk, rfl, hown, HDK, HRK, HA⟩ := hrel
    obtain ⟨A_, c_, rfl⟩ := img_form hown
    have HBYK := Lib.hid (show ∀ x ∈ Dk, 0 ≤ x ∧ x < 256 by rw [← HDK.out.1]; exact b8_drop HBY3.out _)
    by_cases hlt : k < N
    · have ck1 : decide ((k : Int) < (N : Int)) = true := decide_eq_true (by omega)
      have ck2 : decide (k < N) = true := decide_eq_true hlt
      have HDL : Aside0 (4 ≤ Dk.length ∧ Dk.length ≤ 1000000) := ⟨by have := HDK.out.2; have := HL3'.out; have := HL3.out; omega⟩
      obtain ⟨Dn, hDn⟩ : ∃ D, Dk.drop 4 = D := ⟨_, rfl⟩
      have HDN : Aside0 (D3.drop (4 * (k + 1)) = Dn ∧ Dn.length + 4 * (k + 1) = D3.length) := ⟨by rw [← hDn, ← HDK.out.1, List.drop_drop]; rfl, by have := HDK.out.2; have := HDL.out; rw [← hDn, List.length_drop]; omega⟩
      obtain ⟨nk, hnk⟩ : ∃ n, num4 Dk = n := ⟨_, rfl⟩
      have HNK : Aside0 (nums D3 (k + 1) = nums D3 k ++ [nk]) := ⟨by rw [nums_succ, HDK.out.1, hnk]⟩
      have hcall := fun W (b1 : Nat × Blk) R (h : Aw noS w W (b1 :: (rx, .c 32 [.slice A' Dk.length Dk.length]) :: R)) => img_take2.calls A' Dk.length Dk HDL.out.1 HDL.out.2 HBYK.out HRK.out (Nat.le_refl _) h
      rw [hDn, hnk] at hcall
      have HC := Lib.hid hcall
      have hap1 : k + 1 ≤ maxLen := by unfold maxLen; omega
      have hap2 : (k + 1) * 4 ≤ 140737488355328 := by omega
      have su : IntKind.u32.wrap ((k : Int) + 1) = (k : Int) + 1 := by show ((k : Int) + 1) % 4294967296 = _; omega
      clear hDn hnk hcall
      go_wp2
      replace HA := HA.drew
      have hc42 := HA.cell (i := 0) (j := 0) rfl rfl
      go_region_law (first | (go_simp; go_at_call 27; have hq := HC.out _ _ _ HA; refine hq.mono ?_; clear hq; clear HA; rintro e W1_ ⟨An_, rfl, HA, hrd⟩; have HRn : RowKit.Hid (∀ V, Kp noS w V → Kd.C (Kd.int .u8) V An_ Dn.length Dn) := Lib.hid (fun V hV => hrd V (HRK.out V hV)); clear hrd; have hc43 := HA.cell (i := 0) (j := 0) rfl rfl; have hc44 := (HA.newD 50 [.int .u32 nk]).cell (i := 1) (j := 0) rfl rfl) | (refine reg_step rfl ?_; refine aw_append 4 0 (Lv := Lv) rfl Try.underlying25 u32_info rfl (Nat.le_refl 1) rfl hown rfl rfl (HA.newD 50 [.int .u32 nk]) rfl rfl rfl rfl hap1 hap2 ?_; clear HA; intro v_ W2_ Lv_ hown_ HA; dsimp only [List.set, List.take, List.cons_append, List.nil_append] at HA; obtain ⟨A2_, c2_, rfl⟩ := img_form hown_; have hs1 := HA.cell (i := 1) (j := 0) rfl rfl; have hs2 : W2_.frozen? ⟨ix, 0, none⟩ = false := HA.free (i := 1) rfl; refine reg_end ?_; simp only [Act.put, List.setIfInBounds_toArray, List.set_cons_succ, List.set_cons_zero]))
      all_goals
        replace HA := HA.setD (i := 1) (j := 0) (.slice A2_ (k + 1) c2_) rfl
        dsimp only [List.set, List.take, List.cons_append, List.nil_append] at HA
        go_wp2
        go_roundg (N - (k + 1))
        case measure => omega
        case rel => exact ⟨k + 1, _, Lv_, An_, Dn, by omega, by first | go_num | simp, by rw [HNK.out]; simpa using hown_, HDN, HRn, HA.sub (List.sublist_cons_self _ _)⟩
    · have ck1 : decide ((k : Int) < (N : Int)) = false := decide_eq_false (by omega)
      have ck2 : decide (k < N) = false := decide_eq_false hlt
      obtain rfl : k = N := by omega
      obtain ⟨m, hm⟩ : ∃ m, l0.length = m + 4 := ⟨l0.length - 4, by omega⟩
      have hdk : l0.drop (l0.length - 4) = Dk := by rw [← HDK.out.1, ← HDD.out, List.drop_drop]; congr 1; have := HLEN.out; omega
      have hdl : Dk.length = 4 := by have := HDK.out.2; have := HL3'.out; omega
      obtain ⟨inf, hi, hsz⟩ := Option.map_eq_some_iff.1 (show (Try.prog.info? 5).map (·.size) = some 1 by kernel_rfl)
      obtain ⟨hcutE, hAE, hCE⟩ := print_take_of (P := Try.prog) (Value.int .u8) 0 32 5 .i64 Try.underlying32 hi hsz A0 c0 l0 (m : Int) (by omega) (by omega) hc0
      rw [Int.toNat_natCast] at hcutE hAE hCE
      have h := H.out
      rw [hdk, show l0.length - 4 = m by omega, Int.toNat_natCast] at h
      obtain ⟨TL, hTL⟩ : ∃ T, l0.take m = T := ⟨_, rfl⟩
      have hTLl : TL.length = m := by rw [← hTL, List.length_take]; omega
      have hTLb : ∀ x ∈ TL, 0 ≤ x ∧ x < 256 := by rw [← hTL]; exact fun x hx => HBY.out x (List.mem_of_mem_take hx)
      rw [hTL] at hcutE hAE hCE h
      have hrT : ∀ V, Kp noS w V → Kd.C (Kd.int .u8) V A0 TL.length TL := fun V hV => Kd.C_of_reads (h1 := fun _ => rfl) (hAE _ (Kd.reads_of_C (HR0.out V hV)))
      have hsum := fun W R (gs : Nat) (h : Aw noS w W ((gs, .c 50 [.int .u32 1]) :: R)) => img_sum.calls (S := noS) 1 (by omega) A0 c0 TL (fun W' s' h => hrT W' h.1) hTLb hCE (by omega) h
      obtain ⟨sm, hsm⟩ : ∃ sm, sumB 1 TL = sm := ⟨_, rfl⟩
      obtain ⟨q, hq0⟩ : ∃ q, num4 Dk = q := ⟨_, rfl⟩
      rw [hsm, hq0] at h
      rw [hTLl, hsm] at hsum
      rw [hTLl] at hcutE
      have s1 : IntKind.i64.wrap ((l0.length : Int) - 4) = (m : Int) := by rw [IntWalk.i64_in _ (by omega)]; omega
      obtain ⟨C, hC⟩ : ∃ C, nums D3 k = C := ⟨_, rfl⟩
      have hCl : C.length = k := by rw [← hC, nums_len]
      rw [hC] at hown h
      have hcall2 := fun W (b1 : Nat × Blk) R (h : Aw noS w W (b1 :: (rx, .c 32 [.slice A' Dk.length Dk.length]) :: R)) => img_take2.calls A' Dk.length Dk (by omega) (by omega) HBYK.out HRK.out (Nat.le_refl _) h
      have hcall3 := fun W (b0 b1 : Nat × Blk) R (h : Aw noS w W (b0 :: b1 :: (rx, .c 32 [.slice A' Dk.length Dk.length]) :: R)) => img_take3.calls A' Dk.length Dk (by omega) (by omega) HBYK.out HRK.out (Nat.le_refl _) h
      rw [hq0] at hcall2 hcall3
      have HC2 := Lib.hid hcall2
      have HC3 := Lib.hid hcall3
      have HSM := Lib.hid hsum
      have hown' : Own 50 1 (.slice A_ C.length c_) C.length (C.map (Value.int .u32)) Lv := by rw [hCl]; exact hown
      have hrt0 := fun W (h : Aw noS w W ((ix, .c 27 [.slice A_ k c_, .int .i64 ee]) :: Lv)) => image_Right.calls A_ c_ C ee _ _ (hown'.reads h (fun x hx => by simp [hx])).1 (hown'.reads h (fun x hx => by simp [hx])).2 (imgRight_eq C ee)
      rw [hCl] at hrt0
      obtain ⟨br, hbr⟩ : ∃ b, imgRight C ee = b := ⟨_, rfl⟩
      rw [hbr] at hrt0 h
      have HRT := Lib.hid hrt0
      have HOW := Lib.hid hown'
      have HCL := Aside0.mk hCl
      clear hTL hTLl hTLb hAE hCE hrT hsum hsm hq0 hCl hC hcall2 hcall3 hrt0 hown' hown hi hsz hdk hdl hlt hm hbr hk ck1 ck2
      have ck1 : decide ((k : Int) < (k : Int)) = false := decide_eq_false (by omega)
      have ck2 : decide (k < k) = false := decide_eq_false (by omega)
      by_cases hs : q = sm
      case neg =>
        rw [if_pos hs] at h
        simp only [Prod.mk.injEq] at h
        obtain ⟨rfl, rfl, rfl⟩ := h
        have ce := beq_eq_false_iff_ne.mpr hs
        have ce2 := bne_iff_ne.mpr hs
        clear hs
        go_wp2
        replace HA := HA.drew
        go_region_law (first | (go_simp; go_at_call 27; (first | have hq := HC2.out _ _ _ HA | have hq := HC3.out _ _ _ _ HA); refine hq.mono ?_; clear hq; clear HA; rintro e W1_ ⟨An_, rfl, HA, hrd⟩; clear hrd) | (go_simp; go_at_call 24; refine (img_adder.calls _).mono ?_; rintro e W2_ ⟨gs, rfl, hk_⟩; replace HA := HA.fresh hk_; clear hk_; dsimp only [List.cons_append, List.nil_append] at HA) | (go_simp; go_at_call 32; have hq := HSM.out _ _ _ HA; refine hq.mono ?_; clear hq; clear HA; rintro e W3_ ⟨rfl, HA⟩))
        all_goals
          go_wp2_with (first | (go_at_call 15; refine (HRT.out _ (HA.sub (List.Sublist.cons _ (List.Sublist.cons_cons _ (List.Sublist.cons _ (List.Sublist.cons _ (List.Sublist.refl _))))))).mono ?_; rintro e W_ ⟨rfl, hb_⟩; replace HA := HA.call hb_; clear hb_) | ((with_reducible refine gate_ld rfl ?_); (first | refine aw_loadW 0 (t := 27) rfl rfl HA rfl rfl ?_ ?_ | refine aw_loadW 1 (t := 27) rfl rfl HA rfl rfl ?_ ?_ | refine aw_loadW 2 (t := 27) rfl rfl HA rfl rfl ?_ ?_ | refine aw_loadW 3 (t := 27) rfl rfl HA rfl rfl ?_ ?_ | refine aw_load 0 rfl rfl HA rfl rfl rfl ?_ ?_ | refine aw_load 1 rfl rfl HA rfl rfl rfl ?_ ?_ | refine aw_load 2 rfl rfl HA rfl rfl rfl ?_ ?_ | refine aw_load 3 rfl rfl HA rfl rfl rfl ?_ ?_); kernel_rfl; simp only [Act.put, List.setIfInBounds_toArray, List.set_cons_succ, List.set_cons_zero]) | ((with_reducible refine gate_st rfl ?_); (first | refine aw_storeW 0 (t := 27) rfl rfl rfl rfl HA rfl rfl rfl ?_ rfl ?_ | refine aw_storeW 1 (t := 27) rfl rfl rfl rfl HA rfl rfl rfl ?_ rfl ?_ | refine aw_storeW 2 (t := 27) rfl rfl rfl rfl HA rfl rfl rfl ?_ rfl ?_ | refine aw_storeW 3 (t := 27) rfl rfl rfl rfl HA rfl rfl rfl ?_ rfl ?_ | refine aw_store 0 (v := .slice _ _ _) rfl rfl rfl rfl rfl HA rfl rfl rfl ?_ ?_ | refine aw_store 1 (v := .slice _ _ _) rfl rfl rfl rfl rfl HA rfl rfl rfl ?_ ?_ | refine aw_store 2 (v := .slice _ _ _) rfl rfl rfl rfl rfl HA rfl rfl rfl ?_ ?_ | refine aw_store 3 (v := .slice _ _ _) rfl rfl rfl rfl rfl HA rfl rfl rfl ?_ ?_); kernel_rfl; clear HA; intro W_ HA; dsimp only [List.set, List.take, List.cons_append, List.nil_append] at HA))
          (try simp only [Exit.inBlock, Exit.then]); (try rw [Exit.noGoto_ret]); refine bodyPost_ret (results_aw2 (i := 3) rfl _ HA rfl rfl rfl (by kernel_rfl)) rfl ?_; exact ⟨_, rfl, (Own.nil _ _).kdR (l := []) HA (by simp) (fun _ _ => trivial), HA.below⟩
      subst hs
      rw [if_neg (fun h => h rfl)] at h
      cases br with
      | false =>
        rw [if_neg (by decide)] at h
        simp only [Prod.mk.injEq] at h
        obtain ⟨rfl, rfl, rfl⟩ := h
        go_wp2
        replace HA := HA.drew
        go_region_law (first | (go_simp; go_at_call 27; (first | have hq := HC2.out _ _ _ HA | have hq := HC3.out _ _ _ _ HA); refine hq.mono ?_; clear hq; clear HA; rintro e W1_ ⟨An_, rfl, HA, hrd⟩; clear hrd) | (go_simp; go_at_call 24; refine (img_adder.calls _).mono ?_; rintro e W2_ ⟨gs, rfl, hk_⟩; replace HA := HA.fresh hk_; clear hk_; dsimp only [List.cons_append, List.nil_append] at HA) | (go_simp; go_at_call 32; have hq := HSM.out _ _ _ HA; refine hq.mono ?_; clear hq; clear HA; rintro e W3_ ⟨rfl, HA⟩))
        all_goals
          go_wp2_with (first | (go_at_call 15; refine (HRT.out _ (HA.sub (List.Sublist.cons _ (List.Sublist.cons_cons _ (List.Sublist.cons _ (List.Sublist.cons _ (List.Sublist.refl _))))))).mono ?_; rintro e W_ ⟨rfl, hb_⟩; replace HA := HA.call hb_; clear hb_) | ((with_reducible refine gate_ld rfl ?_); (first | refine aw_loadW 0 (t := 27) rfl rfl HA rfl rfl ?_ ?_ | refine aw_loadW 1 (t := 27) rfl rfl HA rfl rfl ?_ ?_ | refine aw_loadW 2 (t := 27) rfl rfl HA rfl rfl ?_ ?_ | refine aw_loadW 3 (t := 27) rfl rfl HA rfl rfl ?_ ?_ | refine aw_load 0 rfl rfl HA rfl rfl rfl ?_ ?_ | refine aw_load 1 rfl rfl HA rfl rfl rfl ?_ ?_ | refine aw_load 2 rfl rfl HA rfl rfl rfl ?_ ?_ | refine aw_load 3 rfl rfl HA rfl rfl rfl ?_ ?_); kernel_rfl; simp only [Act.put, List.setIfInBounds_toArray, List.set_cons_succ, List.set_cons_zero]) | ((with_reducible refine gate_st rfl ?_); (first | refine aw_storeW 0 (t := 27) rfl rfl rfl rfl HA rfl rfl rfl ?_ rfl ?_ | refine aw_storeW 1 (t := 27) rfl rfl rfl rfl HA rfl rfl rfl ?_ rfl ?_ | refine aw_storeW 2 (t := 27) rfl rfl rfl rfl HA rfl rfl rfl ?_ rfl ?_ | refine aw_storeW 3 (t := 27) rfl rfl rfl rfl HA rfl rfl rfl ?_ rfl ?_ | refine aw_store 0 (v := .slice _ _ _) rfl rfl rfl rfl rfl HA rfl rfl rfl ?_ ?_ | refine aw_store 1 (v := .slice _ _ _) rfl rfl rfl rfl rfl HA rfl rfl rfl ?_ ?_ | refine aw_store 2 (v := .slice _ _ _) rfl rfl rfl rfl rfl HA rfl rfl rfl ?_ ?_ | refine aw_store 3 (v := .slice _ _ _) rfl rfl rfl rfl rfl HA rfl rfl rfl ?_ ?_); kernel_rfl; clear HA; intro W_ HA; dsimp only [List.set, List.take, List.cons_append, List.nil_append] at HA))
          (try simp only [Exit.inBlock, Exit.then]); (try rw [Exit.noGoto_ret]); refine bodyPost_ret (results_aw2 (i := 3) rfl _ HA rfl rfl rfl (by kernel_rfl)) rfl ?_; exact ⟨_, rfl, (Own.nil _ _).kdR (l := []) HA (by simp) (fun _ _ => trivial), HA.below⟩
      | true =>
        rw [if_pos rfl] at h
        simp only [Prod.mk.injEq] at h
        obtain ⟨rfl, rfl, rfl⟩ := h
        go_wp2
        replace HA := HA.drew
        go_region_law (first | (go_simp; go_at_call 27; (first | have hq := HC2.out _ _ _ HA | have hq := HC3.out _ _ _ _ HA); refine hq.mono ?_; clear hq; clear HA; rintro e W1_ ⟨An_, rfl, HA, hrd⟩; clear hrd) | (go_simp; go_at_call 24; refine (img_adder.calls _).mono ?_; rintro e W2_ ⟨gs, rfl, hk_⟩; replace HA := HA.fresh hk_; clear hk_; dsimp only [List.cons_append, List.nil_append] at HA) | (go_simp; go_at_call 32; have hq := HSM.out _ _ _ HA; refine hq.mono ?_; clear hq; clear HA; rintro e W3_ ⟨rfl, HA⟩))
        all_goals
          go_wp2_with (first | (go_at_call 15; refine (HRT.out _ (HA.sub (List.Sublist.cons _ (List.Sublist.cons_cons _ (List.Sublist.cons _ (List.Sublist.cons _ (List.Sublist.refl _))))))).mono ?_; rintro e W_ ⟨rfl, hb_⟩; replace HA := HA.call hb_; clear hb_) | ((with_reducible refine gate_ld rfl ?_); (first | refine aw_loadW 0 (t := 27) rfl rfl HA rfl rfl ?_ ?_ | refine aw_loadW 1 (t := 27) rfl rfl HA rfl rfl ?_ ?_ | refine aw_loadW 2 (t := 27) rfl rfl HA rfl rfl ?_ ?_ | refine aw_loadW 3 (t := 27) rfl rfl HA rfl rfl ?_ ?_ | refine aw_load 0 rfl rfl HA rfl rfl rfl ?_ ?_ | refine aw_load 1 rfl rfl HA rfl rfl rfl ?_ ?_ | refine aw_load 2 rfl rfl HA rfl rfl rfl ?_ ?_ | refine aw_load 3 rfl rfl HA rfl rfl rfl ?_ ?_); kernel_rfl; simp only [Act.put, List.setIfInBounds_toArray, List.set_cons_succ, List.set_cons_zero]) | ((with_reducible refine gate_st rfl ?_); (first | refine aw_storeW 0 (t := 27) rfl rfl rfl rfl HA rfl rfl rfl ?_ rfl ?_ | refine aw_storeW 1 (t := 27) rfl rfl rfl rfl HA rfl rfl rfl ?_ rfl ?_ | refine aw_storeW 2 (t := 27) rfl rfl rfl rfl HA rfl rfl rfl ?_ rfl ?_ | refine aw_storeW 3 (t := 27) rfl rfl rfl rfl HA rfl rfl rfl ?_ rfl ?_ | refine aw_store 0 (v := .slice _ _ _) rfl rfl rfl rfl rfl HA rfl rfl rfl ?_ ?_ | refine aw_store 1 (v := .slice _ _ _) rfl rfl rfl rfl rfl HA rfl rfl rfl ?_ ?_ | refine aw_store 2 (v := .slice _ _ _) rfl rfl rfl rfl rfl HA rfl rfl rfl ?_ ?_ | refine aw_store 3 (v := .slice _ _ _) rfl rfl rfl rfl rfl HA rfl rfl rfl ?_ ?_); kernel_rfl; clear HA; intro W_ HA; dsimp only [List.set, List.take, List.cons_append, List.nil_append] at HA))
          (try simp only [Exit.inBlock, Exit.then]); (try rw [Exit.noGoto_ret]); refine bodyPost_ret (results_aw2 (i := 3) rfl _ HA rfl rfl rfl (by kernel_rfl)) rfl ?_
          exact ⟨_, rfl, by have h9 := HOW.out.kdR HA (ok := fun _ => True) (fun x hx => by simp [hx]) (fun _ _ => trivial); rw [HCL.out] at h9; exact h9, HA.below⟩
end Go.Proofs.Ytbjfchkfhbpclaa.Q

--@needs XAw
--@needs XAwSl
--@needs XAwFrame
--@needs XHimgPut
--@needs XHimgTake
--@needs XAwOut
--@uses camlet/image.Link
--@uses camlet/image.Right
--@uses camlet/camletref44.Same
namespace Go.Proofs.Ytbjfchkfhbpclaa.Q
open Go.RowKit Go.Proofs.YtbjfchkfhbpclaaW.PrintWords Go.Proofs.YtbjfchkfhbpclaaW.PrintLast Go.Proofs.YtbjfchkfhbpclaaW.PrintMore
attribute [local go_sem] max2_int min2_int max_two min_two max_three min_three max_four min_four   -- for this text's walks alone
set_option linter.unusedVariables false
set_option linter.unusedSimpArgs false

def camletlaw44_knows.f : Option (Bool) := some true
def knL1 : S44 := ⟨⟨#[115, 116, 97, 114, 116]⟩, ⟨0, 0, 0, 0, 0⟩, ⟨#[]⟩⟩
def knL2 : S44 := ⟨⟨#[]⟩, ⟨0, 0, 0, 0, 0⟩, ⟨#[]⟩⟩
theorem kn_link1 : image_Link.f 10 [knL1] = some ([0], 0, 0, 0) := by kernel_rfl
theorem kn_link2 : image_Link.f 10 [knL2] = some ([], 0, 1, 25) := by kernel_rfl
theorem kn_put : image_Put.f 0 [0] 0 = some (imgBytes [0] 0, 0) := by kernel_rfl
theorem kn_take : image_Take.f (imgBytes [0] 0) = some ([0], 0, 0) := by kernel_rfl
theorem kn_len : (imgBytes [0] 0).length = 20 := by kernel_rfl
theorem kn_mark : strOfNums ((imgBytes [0] 0).take 4) = ⟨#[67, 77, 76, 49]⟩ := by kernel_rfl
theorem kn_same : camletref44_Same.f 10 [0] 0 [0] 0 = some true := by kernel_rfl
theorem kn_right : image_Right.f [0] 0 = some true := by kernel_rfl
theorem kn_reads {S : Nat → Prop} {w W : World} {L : List (Nat × Blk)} {i g : Nat} (x : S44) (HA : Aw S w W L) (hi : L[i]? = some (g, .c 44 [.string x.f0, .int .i64 x.f1.f0, .int .i64 x.f1.f1, .int .i64 x.f1.f2, .int .i64 x.f1.f3, .int .i64 x.f1.f4, .string x.f2])) : Kd.C k44 W (some ⟨g, 0, none⟩) 1 [x] := by
  refine ⟨rfl, by decide, fun _ => ⟨_, rfl, ?_⟩⟩
  intro j p hp
  have hj : j = 0 := by
    have := (List.getElem?_eq_some_iff.1 hp).1
    simp at this
    omega
  subst hj
  obtain rfl : x = p := by simpa using hp
  refine ⟨_, rfl, k44_mk W x, fun i u hu => ?_⟩
  rw [Addr.add_mid, Nat.zero_mul, Nat.zero_add, Nat.zero_add]
  exact HA.cell hi hu
set_option maxHeartbeats 8000000 in
set_option maxRecDepth 100000 in
theorem camletlaw44_knows.calls (r : Bool) (w : World) (h : camletlaw44_knows.f = some r) :
    Calls Try.prog 9 #[] w fun e w' => e = .returned (.bool r) ∧ Below w.heap.size w w' := by
  have HA := Aw.start noS w
  obtain rfl : true = r := Option.some.inj h
  have hT := kn_take
  have hM := kn_mark
  have hBl := kn_len
  obtain ⟨B, hB⟩ : ∃ B, imgBytes [0] 0 = B := ⟨_, rfl⟩
  rw [hB] at hT hM hBl
  have hE : ((B.length : Int) == 20) = true := by rw [hBl]; rfl
  have HBL := Aside0.mk hBl
  clear hBl
  obtain ⟨inf, hi, hsz⟩ := Option.map_eq_some_iff.1 (show (Try.prog.info? 5).map (·.size) = some 1 by kernel_rfl)
  clear h
  go_enter Try.func9, Try.ntmps9
  go_wp2_with (first | ((with_reducible refine gate_dst (N := 13) rfl ?_); refine aw_newv (fun g => .slice (some ⟨g, 0, none⟩) 1 1) 44 [.string ⟨#[115, 116, 97, 114, 116]⟩, .int .i64 0, .int .i64 0, .int .i64 0, .int .i64 0, .int .i64 0, .string ⟨#[]⟩] rfl (fun W => by first | (go_simp; done) | (go_simp; rfl) | kernel_rfl) HA ?_; clear HA; intro g1 W_ HA; simp only [Act.put, List.setIfInBounds_toArray, List.set_cons_succ, List.set_cons_zero]) | ((with_reducible refine gate_dst (N := 30) rfl ?_); refine aw_newv (fun g => .slice (some ⟨g, 0, none⟩) 1 1) 44 [.string ⟨#[]⟩, .int .i64 0, .int .i64 0, .int .i64 0, .int .i64 0, .int .i64 0, .string ⟨#[]⟩] rfl (fun W => by first | (go_simp; done) | (go_simp; rfl) | kernel_rfl) HA ?_; clear HA; intro g2 W_ HA; simp only [Act.put, List.setIfInBounds_toArray, List.set_cons_succ, List.set_cons_zero]) | ((with_reducible refine gate_dst (N := 1) rfl ?_); refine aw_alloc rfl rfl img_zero HA ?_; clear HA; intro b1 W_ HA; simp only [Act.put, List.setIfInBounds_toArray, List.set_cons_succ, List.set_cons_zero]) | ((with_reducible refine gate_dst (N := 6) rfl ?_); refine aw_alloc rfl rfl img_zero HA ?_; clear HA; intro b6 W_ HA; simp only [Act.put, List.setIfInBounds_toArray, List.set_cons_succ, List.set_cons_zero]) | ((with_reducible refine gate_dst (N := 8) rfl ?_); refine aw_alloc rfl rfl img_zero HA ?_; clear HA; intro b8 W_ HA; simp only [Act.put, List.setIfInBounds_toArray, List.set_cons_succ, List.set_cons_zero]) | (go_at_call_of 10 g1; refine (image_Link.calls 10 (some ⟨g1, 0, none⟩) 1 [knL1] [0] 0 0 0 _ (kn_reads (i := 0) knL1 HA rfl) (Nat.le_refl 1) kn_link1).mono ?_; rintro e W_ ⟨v1, rfl, hR1, hb_⟩; obtain ⟨Lv1, hown1, HA1⟩ := HA.fromR hb_ hR1; clear hR1 hb_ HA; have HA := HA1; clear HA1; obtain ⟨A1, c1, rfl⟩ := img_form hown1; dsimp only [List.cons_append, List.nil_append] at HA) | (go_at_call_of 10 g2; refine (image_Link.calls 10 (some ⟨g2, 0, none⟩) 1 [knL2] [] 0 1 25 _ (kn_reads (i := 0) knL2 HA rfl) (Nat.le_refl 1) kn_link2).mono ?_; rintro e W_ ⟨v4, rfl, hR4, hb_⟩; obtain ⟨A4_, c4_, e4_, _, _⟩ := Kd.R_reads hR4; subst e4_; clear hR4; replace HA := HA.call hb_; clear hb_) | (go_at_call 13; refine (image_Put.calls 0 A1 c1 [0] 0 (imgBytes [0] 0) 0 _ (hown1.reads (l := [0]) HA (fun x hx => by simp [hx])).1 (hown1.reads (l := [0]) HA (fun x hx => by simp [hx])).2 kn_put).mono ?_; rintro e W_ ⟨v2, rfl, hR2, hb_⟩; obtain ⟨Lv2, hown2, HA1⟩ := HA.fromR hb_ hR2; clear hR2 hb_ HA; have HA := HA1; clear HA1; rw [hB] at hown2; obtain ⟨A2, c2, rfl⟩ := img_form hown2; dsimp only [List.cons_append, List.nil_append] at HA) | (go_at_call 17; refine (image_Take.calls A2 c2 B [0] 0 0 _ (hown2.reads HA (fun x hx => by simp [hx])).1 (hown2.reads HA (fun x hx => by simp [hx])).2 hT).mono ?_; rintro e W_ ⟨v3, rfl, hR3, hb_⟩; obtain ⟨Lv3, hown3, HA1⟩ := HA.fromR hb_ hR3; clear hR3 hb_ HA; have HA := HA1; clear HA1; obtain ⟨A3, c3, rfl⟩ := img_form hown3; dsimp only [List.cons_append, List.nil_append] at HA) | (go_at_call 12; refine (camletref44_Same.calls 10 A1 c1 [0] 0 A3 c3 [0] 0 true _ (hown1.reads (l := [0]) HA (fun x hx => by simp [hx])).1 (hown1.reads (l := [0]) HA (fun x hx => by simp [hx])).2 (hown3.reads (l := [0]) HA (fun x hx => by simp [hx])).1 (hown3.reads (l := [0]) HA (fun x hx => by simp [hx])).2 kn_same).mono ?_; rintro e W_ ⟨rfl, hb_⟩; replace HA := HA.call hb_; clear hb_) | (go_at_call 15; refine (image_Right.calls A1 c1 [0] 0 true _ (hown1.reads (l := [0]) HA (fun x hx => by simp [hx])).1 (hown1.reads (l := [0]) HA (fun x hx => by simp [hx])).2 kn_right).mono ?_; rintro e W_ ⟨rfl, hb_⟩; replace HA := HA.call hb_; clear hb_) | ((with_reducible refine gate_dst (N := 67) rfl ?_); refine aw_slice Try.underlying32 rfl rfl ((print_take_of (P := Try.prog) (Value.int .u8) 0 32 5 .i64 Try.underlying32 hi hsz A2 c2 B 4 (by omega) (by have := HBL.out; omega) (hown2.reads HA (fun x hx => by simp [hx])).2).1 _) ?_; simp only [Act.put, List.setIfInBounds_toArray, List.set_cons_succ, List.set_cons_zero]) | ((with_reducible refine gate_dst (N := 68) rfl ?_); refine aw_conv rfl rfl rfl (Kd.C_string (P := Try.prog) (A := A2) (c := c2) Try.underlying32 Try.underlying5 Try.underlying9 (Kd.C_of_reads (h1 := fun _ => rfl) ((print_take_of (P := Try.prog) (Value.int .u8) 0 32 5 .i64 Try.underlying32 hi hsz A2 c2 B 4 (by omega) (by have := HBL.out; omega) (hown2.reads HA (fun x hx => by simp [hx])).2).2.1 _ (Kd.reads_of_C (hown2.reads HA (fun x hx => by simp [hx])).1)))) ?_; simp only [Act.put, List.setIfInBounds_toArray, List.set_cons_succ, List.set_cons_zero]; try rw [hM]) | ((with_reducible refine gate_ld rfl ?_); (first | refine aw_loadW 0 (t := 27) rfl rfl HA rfl rfl ?_ ?_ | refine aw_loadW 1 (t := 27) rfl rfl HA rfl rfl ?_ ?_ | refine aw_loadW 2 (t := 27) rfl rfl HA rfl rfl ?_ ?_ | refine aw_loadW 3 (t := 27) rfl rfl HA rfl rfl ?_ ?_ | refine aw_load 0 rfl rfl HA rfl rfl rfl ?_ ?_ | refine aw_load 1 rfl rfl HA rfl rfl rfl ?_ ?_ | refine aw_load 2 rfl rfl HA rfl rfl rfl ?_ ?_ | refine aw_load 3 rfl rfl HA rfl rfl rfl ?_ ?_); kernel_rfl; simp only [Act.put, List.setIfInBounds_toArray, List.set_cons_succ, List.set_cons_zero]) | ((with_reducible refine gate_st rfl ?_); (first | refine aw_storeW 0 (t := 27) rfl rfl rfl rfl HA rfl rfl rfl ?_ rfl ?_ | refine aw_storeW 1 (t := 27) rfl rfl rfl rfl HA rfl rfl rfl ?_ rfl ?_ | refine aw_storeW 2 (t := 27) rfl rfl rfl rfl HA rfl rfl rfl ?_ rfl ?_ | refine aw_storeW 3 (t := 27) rfl rfl rfl rfl HA rfl rfl rfl ?_ rfl ?_); kernel_rfl; clear HA; intro W_ HA; dsimp only [List.set, List.take, List.cons_append, List.nil_append] at HA))
  go_ret
  exact ⟨rfl, HA.below⟩
end Go.Proofs.Ytbjfchkfhbpclaa.Q

/- Several texts in one: heap's laying of a value: the walk (under way). By wip/gen/heap_put.py. heap's laying of a value: a block, a closure, any value. By wip/gen/heap_put.py. -/
import Derived.Test.YtaddjeegplfjiaaQx0
import Derived.Test.YtaddjeegplfjiaaQx3
import Derived.Test.YtaddjeegplfjiaaAw
import Derived.Test.YtaddjeegplfjiaaAwAny
import Derived.Test.YtaddjeegplfjiaaAwFrame
import Derived.Test.YtaddjeegplfjiaaAwReg
import Derived.Test.YtaddjeegplfjiaaAwRowPut
import Derived.Test.YtaddjeegplfjiaaAwSl
import Derived.Test.YtaddjeegplfjiaaAwTree
import Derived.Test.YtaddjeegplfjiaaHheapMay
import Derived.Test.YtaddjeegplfjiaaLayM
import Derived.LoopTactic
import Derived.Deep.LoopGhost
import Derived.Lib.Hide
import Derived.IntWalk
import Derived.Outline
import Derived.Test.YtaddjeegplfjiaaQx1
import Derived.Test.YtaddjeegplfjiaaHeapPlain
--@needs XAwTree
--@needs XAwRowPut
--@needs XAwReg
--@needs XAwAny
--@needs XHheapMay
--@needs XLayM
--@uses camlet/num.Box
--@uses camlet/heap.Head
namespace Go.Proofs.Ytaddjeegplfjiaa.Q
open Go.RowKit Go.Proofs.YtaddjeegplfjiaaW.PrintWords Go.Proofs.YtaddjeegplfjiaaW.PrintLast Go.Proofs.YtaddjeegplfjiaaW.PrintMore
attribute [local go_sem] max2_int min2_int max_two min_two max_three min_three max_four min_four   -- for this text's walks alone
set_option linter.unusedVariables false
set_option linter.unusedSimpArgs false

abbrev lyT (gl mg n cap : Nat) (a : Int) : Nat × Blk := (gl, .c 56 [.slice (some ⟨mg, 0, none⟩) n cap, .int .i64 a])
abbrev lyM (mg cap : Nat) (m : List Int) : Nat × Blk := (mg, Blk.r 22 1 cap (m.map (Value.int .u32)))
def LayPost (gl mg n cap : Nat) (W : World) (q : Int × (List Int × Int)) (e : Ending) (W' : World) : Prop :=
  e = .returned (.int .u32 q.1) ∧ Aw (inL [(gl, Blk.c 56 []), (mg, Blk.c 56 [])]) W W' [lyT gl mg n cap q.2.2, lyM mg cap q.2.1]
set_option maxHeartbeats 8000000 in
set_option maxRecDepth 100000 in
theorem hLay.int (gl mg n cap : Nat) (a : Int) (m : List Int) (x : S34) (A : Option Addr) (c : Nat) (W : World) (d : Nat) (h1 : x.f0 = 1) (HA : Aw (inL [(gl, Blk.c 56 []), (mg, Blk.c 56 [])]) W W [lyT gl mg n cap a, lyM mg cap m]) :
    Calls Try.prog 30 #[.pointer (some ⟨gl, 0, none⟩), .agg #[.int .i64 x.f0, .int .i64 x.f1, .slice A x.f2.length c]] W (LayPost gl mg n cap W (layV (d + 1) x (m, a))) := by
  have e : layV (d + 1) x (m, a) = (boxV x.f1, (m, a)) := by rw [layV, if_pos h1]
  rw [e, h1]
  obtain ⟨f1, hf⟩ : ∃ y, x.f1 = y := ⟨_, rfl⟩
  obtain ⟨k, hk⟩ : ∃ y, x.f2.length = y := ⟨_, rfl⟩
  rw [hf, hk]
  clear e h1 hf hk
  go_enter Try.func30, Try.ntmps30
  go_wp2_with (first | ((with_reducible refine gate_dst (N := 3) rfl ?_); refine aw_box rfl rfl rfl HA ?_; clear HA; intro gx W_ HA; simp only [Act.put, List.setIfInBounds_toArray, List.set_cons_succ, List.set_cons_zero]) | (go_at_call 45; refine (num_Box.calls f1 _ _ (boxV_eq f1)).mono ?_; rintro e W_ ⟨rfl, hd_⟩; replace HA := HA.drewN0 hd_; clear hd_) | ((with_reducible refine gate_ld rfl ?_); (first | refine aw_load 0 rfl rfl HA rfl rfl rfl ?_ ?_ | refine aw_load 1 rfl rfl HA rfl rfl rfl ?_ ?_ | refine aw_load 2 rfl rfl HA rfl rfl rfl ?_ ?_); kernel_rfl; simp only [Act.put, List.setIfInBounds_toArray, List.set_cons_succ, List.set_cons_zero]))
  go_ret
  exact ⟨rfl, HA.sub (List.sublist_cons_self _ _)⟩
theorem hp_join {S : Nat → Prop} {w W1 W' : World} {L2 L3 : List (Nat × Blk)} (HP : Aw S w W1 L2) (HA : Aw (inL L2) W1 W' L3) : Aw S w W' L3 := by
  have h := Aw.frame (R := []) (by rw [List.append_nil]; exact HP) HA
  rwa [List.append_nil] at h
theorem hp_side {S : Nat → Prop} {w W W' : World} {y : Nat × Blk} {L L' : List (Nat × Blk)} (HA : Aw S w W (y :: L)) (hk : Aw (inL L) W W' L') : Aw S w W' (y :: L') := by
  have h := Aw.frame (R := [y]) (HA.perm (List.perm_append_comm (l₁ := [y]) (l₂ := L))) hk
  exact h.perm (List.perm_append_comm (l₁ := L') (l₂ := [y]))
theorem ly_zero (W : World) : (Instr.alloc 34 true (.tuple #[])).run Try.prog W = .ok (.pointer (some ⟨W.heap.size, 0, none⟩)) (W.alloc (.cells ([.int .i64 0, .int .i64 0, .slice none 0 0] : List Value).toArray 34 (0, 0))) := by kernel_rfl
set_option maxHeartbeats 8000000 in
set_option maxRecDepth 100000 in
theorem hLay.put (d : Nat) (gl mg gx n cap F nn cc : Nat) (a : Int) (m : List Int) (l : List S34) (A : Option Addr) (c : Nat) (W : World) (xk xn : Int) (A9 : Option Addr) (hA9 : 0 < l.length → A9 = some ⟨mg, F, none⟩) (ha0 : 0 ≤ a) (hsum : a + (l.map (wordsV d)).sum ≤ m.length) (hF : Kd.F k34 W (fun k => k ≠ gl ∧ k ≠ mg) A l.length l) (hgx : gx ≠ gl ∧ gx ≠ mg) (hx : W.heap[gx]? = some (.cells #[.int .i64 xk, .int .i64 xn, .slice A l.length c] 34 (0, 0))) (hl : l.length ≤ 1000) (hnn : l.length ≤ nn) (hroom : F + l.length ≤ m.length)
    (HIH : ∀ (x : S34) (A : Option Addr) (c : Nat) (a : Int) (m' : List Int) (W1 : World), x ∈ l → x.f2.length ≤ c → m'.length = m.length → 0 ≤ a → a + wordsV d x ≤ m.length → Kd.F k34 W1 (fun k => k ≠ gl ∧ k ≠ mg) A x.f2.length x.f2 → Aw (inL [(gl, Blk.c 56 []), (mg, Blk.c 56 [])]) W1 W1 [lyT gl mg n cap a, lyM mg cap m'] → Calls Try.prog 30 #[.pointer (some ⟨gl, 0, none⟩), .agg #[.int .i64 x.f0, .int .i64 x.f1, .slice A x.f2.length c]] W1 (LayPost gl mg n cap W1 (layV d x (m', a))))
    (HA : Aw (inL [(gl, Blk.c 56 []), (mg, Blk.c 56 [])]) W W [lyT gl mg n cap a, lyM mg cap m]) :
    Calls Try.prog 46 #[.slice A9 nn cc, .func (.func 30) #[.pointer (some ⟨gl, 0, none⟩)] #[], .pointer (some ⟨gx, 0, none⟩)] W fun e W' => e = .returned (.tuple #[]) ∧ Aw (inL [(gl, Blk.c 56 []), (mg, Blk.c 56 [])]) W W' [lyT gl mg n cap (layKids (layV d) l F (m, a)).2, lyM mg cap (layKids (layV d) l F (m, a)).1] := by
  obtain ⟨res, hres⟩ : ∃ res, layKids (layV d) l F (m, a) = res := ⟨_, rfl⟩
  rw [hres]
  have HRES := Aside0.mk hres
  have HFF := Aside0.mk hF
  have HI := Lib.hid HIH
  have HA9 := Aside0.mk hA9
  have HS0 := Aside0.mk (And.intro ha0 hsum)
  have HA0 := HA
  have hc0 : W.cell? ⟨gx, 2, none⟩ = some (.slice A l.length c) := (blk_cell hx 2).trans rfl
  obtain ⟨P, HP⟩ : ∃ P : Ending → World → Prop, Aside0 (P = fun e W' => e = .returned (.tuple #[]) ∧ Aw (inL [(gl, Blk.c 56 []), (mg, Blk.c 56 [])]) W W' [lyT gl mg n cap res.2, lyM mg cap res.1]) := ⟨_, ⟨rfl⟩⟩
  rw [← HP.out]
  clear hres hF HIH hA9 ha0 hsum
  go_enter Try.func46, Try.ntmps46
  go_wp2
  go_loopg [10] (l.length) (fun g v wx => ∃ (k : Nat) (m1 : List Int) (a1 : Int), k + g = l.length ∧ v = .int .i64 k ∧ m1.length = m.length ∧ Aside0 (0 ≤ a1 ∧ a1 + ((l.drop k).map (wordsV d)).sum ≤ m.length) ∧ Aside0 (layKids (layV d) (l.drop k) (F + k : Int) (m1, a1) = res) ∧ Aw (inL [(gl, Blk.c 56 []), (mg, Blk.c 56 [])]) W wx [lyT gl mg n cap a1, lyM mg cap m1])
  case atStart => exact ⟨0, m, a, by omega, rfl, rfl, ⟨by simpa using HS0.out⟩, ⟨by simpa using HRES.out⟩, HA⟩
  case round =>
    clear HA HA0
    obtain ⟨k, m1, a1, hkg, rfl, hm1, HS1, HRL, HA⟩ := hrel
    by_cases hlt : k < l.length
    · obtain rfl := HA9.out (by omega)
      have ck : decide ((k : Int) < (l.length : Int)) = true := decide_eq_true (by omega)
      have ck2 : decide (k < l.length) = true := decide_eq_true hlt
      have hw : IntKind.i64.wrap ((k : Int) + 1) = ((k + 1 : Nat) : Int) := by rw [IntWalk.i64_in _ (by omega)]; rfl
      have p0 : (0 ≤ (k : Int)) = True := eq_true (by omega)
      have q0 : ((k : Int) < (l.length : Int)) = True := eq_true (by omega)
      have q1 : ((k : Int) < (nn : Int)) = True := eq_true (by omega)
      have hnot : ∀ j : Nat, (j ≠ gl ∧ j ≠ mg) → ¬ inL [(gl, Blk.c 56 []), (mg, Blk.c 56 [])] j := fun j hj hi => by
        obtain ⟨y, hy, he⟩ := List.mem_map.1 hi
        rcases List.mem_cons.1 hy with rfl | hy
        · exact hj.1 he.symm
        · obtain rfl := List.mem_singleton.1 hy
          exact hj.2 he.symm
      have hFx : Kd.F k34 wr (fun k => k ≠ gl ∧ k ≠ mg) A l.length l := Kd.F_step HFF.out (fun j hj hlt => HA.1.block j hlt (hnot j hj))
      have hgc : wr.cell? ⟨gx, 2, none⟩ = some (.slice A l.length c) := by
        rw [← hc0]
        exact World.cell?_of_block (w := W) (HA.1.block gx (blk_lt hx) (hnot gx hgx))
      obtain ⟨ad, cs9, hA, hcl, hFK, hcs, _⟩ := Kd.F_get hFx z34 (k : Int) (by omega) (by omega)
      subst hA
      obtain ⟨x, HX⟩ : ∃ x, Aside0 (l[k] = x) := ⟨_, ⟨rfl⟩⟩
      have hgd : l.getD ((k : Int)).toNat z34 = x := by rw [← HX.out, Int.toNat_natCast, List.getD_eq_getElem?_getD, List.getElem?_eq_getElem hlt]; rfl
      rw [hgd] at hFK
      obtain ⟨A2, c2, rfl, hl2, hF2⟩ := k34_openF hFK
      have hc : ∀ j u, ([.int .i64 x.f0, .int .i64 x.f1, .slice A2 x.f2.length c2] : List Value)[j]? = some u → wr.cell? (ad.add (k * 3 + j)) = some u := hcs
      have hx0' : wr.cell? (ad.add (k * 3)) = some (.int .i64 x.f0) := hc 0 _ rfl
      have hx1' : wr.cell? ⟨(ad.add (k * 3)).block, (ad.add (k * 3)).off + 1, none⟩ = some (.int .i64 x.f1) := by rw [← add_field _ _ 1 (by omega)]; exact hc 1 _ rfl
      have hx2' : wr.cell? ⟨(ad.add (k * 3)).block, (ad.add (k * 3)).off + 2, none⟩ = some (.slice A2 x.f2.length c2) := by rw [← add_field _ _ 2 (by omega)]; exact hc 2 _ rfl
      have hmem : x ∈ l := by rw [← HX.out]; exact List.getElem_mem hlt
      have HF2 := Lib.hid (fun (W' : World) (hk : Kp (inL [(gl, Blk.c 56 []), (mg, Blk.c 56 [])]) wr W') => Kd.F_step hF2 (fun j hj hlt => hk.block j hlt (hnot j hj)))
      have hrl := HRL.out
      rw [List.drop_eq_getElem_cons hlt, HX.out, layKids] at hrl
      have hs1 := HS1.out
      rw [List.drop_eq_getElem_cons hlt, HX.out, List.map_cons, List.sum_cons] at hs1
      have hw0 := wordsV_nn d x
      have hw1 := wordsV_sum d (l.drop (k + 1))
      have hax : a1 + wordsV d x ≤ m.length := by omega
      have hlo := layV_ok d x (m1, a1)
      obtain ⟨q, hq⟩ : ∃ q, layV d x (m1, a1) = q := ⟨_, rfl⟩
      have hcall := fun (W_ : World) hf hA => HI.out x A2 c2 a1 m1 W_ hmem hl2 hm1 hs1.1 hax hf hA
      rw [hq] at hrl hlo hcall
      obtain ⟨qw, m2, a2⟩ := q
      dsimp only at hrl hlo
      have HCALL := Aside0.mk hcall
      have HRL2 := Aside0.mk hrl
      have hm2 : m2.length = m.length := hlo.1.trans hm1
      have hjr : F + k < (m2.map (Value.int .u32)).length := by rw [List.length_map]; omega
      have HP1 := Aside0.mk HA
      replace HA := HA.givens
      have HS2 : Aside0 (0 ≤ a2 ∧ a2 + ((l.drop (k + 1)).map (wordsV d)).sum ≤ m.length) := ⟨by have h := hlo.2; omega⟩
      clear hs1 hw0 hw1 hax HS1
      clear hrl hlo hcall hq hcs hc hFK hFx hF2 HRL hcl hgd
      go_wp2_with (first | ((with_reducible refine gate_dst (N := 6) rfl ?_); refine aw_alloc rfl rfl ly_zero HA ?_; clear HA; intro gk W_ HA; simp only [Act.put, List.setIfInBounds_toArray, List.set_cons_succ, List.set_cons_zero]) | (go_at_call 30; refine (HCALL.out _ (HF2.out _ HA.1) (HA.sub (List.sublist_cons_self _ _)).givens).mono ?_; rintro e W_ ⟨rfl, hk_⟩; replace HA := hp_side HA hk_; clear hk_; dsimp only at HA) | ((with_reducible refine gate_ld rfl ?_); (refine aw_loadW 0 (t := 34) rfl rfl HA rfl rfl ?_ ?_); kernel_rfl; simp only [Act.put, List.setIfInBounds_toArray, List.set_cons_succ, List.set_cons_zero]) | ((with_reducible refine gate_st rfl ?_); (first | refine aw_rstore 2 (e := 22) (v := .int .u32 _) rfl rfl rfl rfl rfl HA rfl rfl hjr ?_ ?_ | refine aw_storeW 0 (t := 34) rfl rfl rfl rfl HA rfl rfl rfl ?_ rfl ?_); kernel_rfl; clear HA; intro W_ HA; dsimp only [List.set, List.take, List.cons_append, List.nil_append] at HA))
      go_roundg (l.length - (k + 1))
      case measure => omega
      case rel =>
        refine ⟨k + 1, m2.set (F + k) qw, a2, by omega, rfl, by simpa using hm2, HS2, ⟨?_⟩, ?_⟩
        · have h := HRL2.out
          rw [show ((F : Int) + (k : Int)).toNat = F + k by omega] at h
          rw [show ((F : Int) + ((k + 1 : Nat) : Int)) = F + k + 1 by omega]
          exact h
        · have h9 := hp_join HP1.out HA
          rw [← List.map_set] at h9
          exact h9.sub (List.sublist_cons_self _ _)
    · have ck : decide ((k : Int) < (l.length : Int)) = false := decide_eq_false (by omega)
      have ck2 : decide (k < l.length) = false := decide_eq_false hlt
      have hrl := HRL.out
      rw [List.drop_eq_nil_of_le (by omega), layKids] at hrl
      go_wp2
      go_end0
      rw [HP.out, ← hrl]
      exact ⟨rfl, HA⟩
end Go.Proofs.Ytaddjeegplfjiaa.Q

--@needs XAwTree
--@needs XAwRowPut
--@needs XAwReg
--@needs XAwAny
--@needs XHheapMay
--@needs XHheapLay
namespace Go.Proofs.Ytaddjeegplfjiaa.Q
open Go.RowKit Go.Proofs.YtaddjeegplfjiaaW.PrintWords Go.Proofs.YtaddjeegplfjiaaW.PrintLast Go.Proofs.YtaddjeegplfjiaaW.PrintMore
attribute [local go_sem] max2_int min2_int max_two min_two max_three min_three max_four min_four   -- for this text's walks alone
set_option linter.unusedVariables false
set_option linter.unusedSimpArgs false

theorem ly_inf_ex : ∃ i, Try.prog.info? 22 = some i ∧ i.size = 1 := by
  have h : (Try.prog.info? 22).map (fun i => (i.zero, i.size, i.bytes)) = some (some (.int .u32 0), 1, 4) := by kernel_rfl
  obtain ⟨i, hi, _, hs, _⟩ := info_parts h
  exact ⟨i, hi, hs⟩
theorem ly_add (b j : Nat) : (⟨b, 0, none⟩ : Addr).add j = ⟨b, j, none⟩ := by unfold Addr.add; split <;> simp_all
theorem ly_not {gl mg : Nat} {b1 b2 : Blk} (j : Nat) (hj : j ≠ gl ∧ j ≠ mg) : ¬ inL [(gl, b1), (mg, b2)] j := fun hi => by
  obtain ⟨y, hy, he⟩ := List.mem_map.1 hi
  rcases List.mem_cons.1 hy with rfl | hy
  · exact hj.1 he.symm
  · obtain rfl := List.mem_singleton.1 hy
    exact hj.2 he.symm
theorem ly_F {gl mg n : Nat} {b1 b2 : Blk} {w W : World} {A : Option Addr} {l : List S34} (hF : Kd.F k34 w (fun k => k ≠ gl ∧ k ≠ mg) A n l) (hk : Kp (inL [(gl, b1), (mg, b2)]) w W) : Kd.F k34 W (fun k => k ≠ gl ∧ k ≠ mg) A n l :=
  Kd.F_step hF (fun j hj hlt => hk.block j hlt (ly_not j hj))
theorem ly_ne {S : Nat → Prop} {w W : World} {gx gl mg : Nat} {b0 b1 b2 : Blk} {L : List (Nat × Blk)} (HA : Aw S w W ((gx, b0) :: (gl, b1) :: (mg, b2) :: L)) : gx ≠ gl ∧ gx ≠ mg := by
  have h := HA.2.2
  simp only [List.map_cons, List.nodup_cons, List.mem_cons, not_or] at h
  exact ⟨h.1.1, h.1.2.1⟩
set_option maxHeartbeats 8000000 in
set_option maxRecDepth 100000 in
theorem hLay.blk (gl mg n cap : Nat) (a : Int) (m : List Int) (x : S34) (A : Option Addr) (c : Nat) (W : World) (d : Nat) (h1 : x.f0 ≠ 1) (h3 : x.f0 ≠ 3) (ha0 : 0 ≤ a) (hhd : headOk 0 x.f1 x.f2.length) (hk9 : x.f2.length ≤ 255) (hmn : m.length = n) (hn9 : n ≤ 1000000) (hnc : n ≤ cap) (hsum : a + wordsV (d + 1) x ≤ n) (hF : Kd.F k34 W (fun k => k ≠ gl ∧ k ≠ mg) A x.f2.length x.f2)
    (HIH : ∀ (y : S34) (A : Option Addr) (c : Nat) (a : Int) (m' : List Int) (W1 : World), y ∈ x.f2 → y.f2.length ≤ c → m'.length = n → 0 ≤ a → a + wordsV d y ≤ n → Kd.F k34 W1 (fun k => k ≠ gl ∧ k ≠ mg) A y.f2.length y.f2 → Aw (inL [(gl, Blk.c 56 []), (mg, Blk.c 56 [])]) W1 W1 [lyT gl mg n cap a, lyM mg cap m'] → Calls Try.prog 30 #[.pointer (some ⟨gl, 0, none⟩), .agg #[.int .i64 y.f0, .int .i64 y.f1, .slice A y.f2.length c]] W1 (LayPost gl mg n cap W1 (layV d y (m', a))))
    (HA : Aw (inL [(gl, Blk.c 56 []), (mg, Blk.c 56 [])]) W W [lyT gl mg n cap a, lyM mg cap m]) :
    Calls Try.prog 30 #[.pointer (some ⟨gl, 0, none⟩), .agg #[.int .i64 x.f0, .int .i64 x.f1, .slice A x.f2.length c]] W (LayPost gl mg n cap W (layV (d + 1) x (m, a))) := by
  have hws := wordsV_blk h1 h3 (d := d)
  rw [layV_blk h1 h3]
  have hw1 := wordsV_sum d x.f2
  have hroom : a + 1 + (x.f2.length : Int) + (x.f2.map (wordsV d)).sum ≤ n := by omega
  have HPUT := Aside0.mk (fun (gx nn cc : Nat) (m1 : List Int) (W1 : World) (A9 : Option Addr) (hm1 : m1.length = n) (hA9 : 0 < x.f2.length → A9 = some ⟨mg, (a + 1).toNat, none⟩) (hFF : Kd.F k34 W1 (fun k => k ≠ gl ∧ k ≠ mg) A x.f2.length x.f2) (hgx : gx ≠ gl ∧ gx ≠ mg) (hx : W1.heap[gx]? = some (.cells #[.int .i64 x.f0, .int .i64 x.f1, .slice A x.f2.length c] 34 (0, 0))) (hnn : x.f2.length ≤ nn) HA1 =>
    hLay.put d gl mg gx n cap (a + 1).toNat nn cc (a + (1 + (x.f2.length : Int))) m1 x.f2 A c W1 x.f0 x.f1 A9 hA9 (by omega) (by omega) hFF hgx hx (by omega) hnn (by omega) (fun y A c a m' W1 h1 h2 h3 h4 h5 => HIH y A c a m' W1 h1 h2 (h3.trans hm1) h4 (by omega)) HA1)
  rw [show (((a + 1).toNat : Nat) : Int) = a + 1 by omega] at HPUT
  have HFF := Aside0.mk hF
  obtain ⟨nn, hnne⟩ : ∃ nn, n - (a + 1).toNat = nn := ⟨_, rfl⟩
  obtain ⟨cc, hcce⟩ : ∃ cc, cap - (a + 1).toNat = cc := ⟨_, rfl⟩
  have hnn : x.f2.length ≤ nn := by omega
  obtain ⟨ly_i, ly_inf, ly_size⟩ := ly_inf_ex
  have hcut := cut_from (P := Try.prog) 30 22 .i64 Try.underlying30 ly_inf 1 ly_size (some ⟨mg, 0, none⟩) n cap (a + 1) (by omega) (by omega)
  obtain ⟨A9, hA⟩ : ∃ A9, (if cap = (a + 1).toNat then (some ⟨mg, 0, none⟩ : Option Addr) else (some ⟨mg, 0, none⟩ : Option Addr).map (·.add ((a + 1).toNat * 1))) = A9 := ⟨_, rfl⟩
  rw [hA, hnne, hcce] at hcut
  have HA9 : Aside0 (0 < x.f2.length → A9 = some ⟨mg, (a + 1).toNat, none⟩) := ⟨fun h0 => by rw [← hA, if_neg (by omega), Nat.mul_one]; exact congrArg some (ly_add mg _)⟩
  have HNN := Aside0.mk hnn
  clear hA hnn ly_inf ly_size hF HIH
  obtain ⟨f0, h0⟩ : ∃ y, x.f0 = y := ⟨_, rfl⟩
  obtain ⟨f1, hf⟩ : ∃ y, x.f1 = y := ⟨_, rfl⟩
  obtain ⟨k, hk⟩ : ∃ y, x.f2.length = y := ⟨_, rfl⟩
  obtain ⟨sm, hsm⟩ : ∃ y, (x.f2.map (wordsV d)).sum = y := ⟨_, rfl⟩
  obtain ⟨wd, hwd⟩ : ∃ y, wordsV (d + 1) x = y := ⟨_, rfl⟩
  obtain ⟨KD, hkd⟩ : ∃ y, layKids (layV d) x.f2 = y := ⟨_, rfl⟩
  rw [hkd, hk, hf] 
  rw [h0] at h3 HPUT ⊢
  rw [hf, hk, hkd] at HPUT
  rw [hk] at hhd hk9 hroom HFF HA9 HNN
  rw [hsm] at hroom hw1
  rw [h0] at h1
  rw [hf] at hhd
  have c1 : (f0 == 1) = false := beq_eq_false_iff_ne.mpr h1
  have c3 : (f0 == 3) = false := beq_eq_false_iff_ne.mpr h3
  clear hws hsum h0 hf hk hsm hwd hkd hnne hcce h3
  obtain ⟨hd, hhde⟩ : ∃ y : Int, 1 + 2 * 0 + 16 * f1 + 16384 * (k : Int) = y := ⟨_, rfl⟩
  rw [hhde]
  have HHD := Aside0.mk (heap_Head_eq 0 f1 k)
  rw [if_pos hhd, hhde] at HHD
  obtain ⟨P, HP⟩ : ∃ P : Ending → World → Prop, Aside0 (P = LayPost gl mg n cap W (4 * a, KD (a + 1) ((m.set a.toNat hd), a + (1 + (k : Int))))) := ⟨_, ⟨rfl⟩⟩
  rw [← HP.out]
  have w1 : IntKind.i64.wrap (a + 1) = a + 1 := IntWalk.i64_in _ (by omega)
  have HM := Aside0.mk hmn
  have hjm : a.toNat < m.length := by omega
  have hju0 : a.toNat < (m.map (Value.int .u32)).length := by simpa using hjm
  obtain ⟨u, hju⟩ : ∃ u, (m.map (Value.int .u32))[a.toNat]? = some u := ⟨_, List.getElem?_eq_getElem hju0⟩
  have i1 : decide (0 ≤ a) = true := decide_eq_true ha0
  have han : a < (n : Int) := by omega
  have i2 : decide (a < (n : Int)) = true := decide_eq_true (by omega)
  -- : decide (0 ≤ a + 1) = true := decide_eq_true (by omega)
  -- : a + 1 < (n : Int) := by omega
  clear hmn hhd hhde
  have HA0 := Aside0.mk HA
  go_enter Try.func30, Try.ntmps30
  go_wp2_with (first | ((with_reducible refine gate_dst (N := 3) rfl ?_); refine aw_box rfl rfl rfl HA ?_; clear HA; intro gx W_ HA; simp only [Act.put, List.setIfInBounds_toArray, List.set_cons_succ, List.set_cons_zero]) | ((with_reducible refine gate_ld rfl ?_); (first | refine aw_load 0 rfl rfl HA rfl rfl rfl ?_ ?_ | refine aw_load 1 rfl rfl HA rfl rfl rfl ?_ ?_ | refine aw_load 2 rfl rfl HA rfl rfl rfl ?_ ?_); kernel_rfl; simp only [Act.put, List.setIfInBounds_toArray, List.set_cons_succ, List.set_cons_zero]))
  have hx1 := HA.drew.cell (i := 1) (j := 1) rfl rfl
  go_region
  have hy1 := HA.drew.drew.cell (i := 0) (j := 1) rfl rfl
  have hy2 := HA.drew.drew.cell (i := 0) (j := 2) rfl rfl
  go_wp2
  go_region
  replace HA := HA.drew.drew
  clear hx1 hy1 hy2
  generalize World.drew (World.drew _) = W8 at HA ⊢
  go_wp2_with (first | ((with_reducible refine gate_dst (N := 3) rfl ?_); refine aw_box rfl rfl rfl HA ?_; clear HA; intro gx W_ HA; simp only [Act.put, List.setIfInBounds_toArray, List.set_cons_succ, List.set_cons_zero]) | ((with_reducible refine gate_ld rfl ?_); (first | refine aw_load 0 rfl rfl HA rfl rfl rfl ?_ ?_ | refine aw_load 1 rfl rfl HA rfl rfl rfl ?_ ?_ | refine aw_load 2 rfl rfl HA rfl rfl rfl ?_ ?_); kernel_rfl; simp only [Act.put, List.setIfInBounds_toArray, List.set_cons_succ, List.set_cons_zero]))
  have h2 := HA.drew
  have hz0 := h2.cell (i := 1) (j := 0) rfl rfl
  go_region_law (go_simp; go_at_call 8; refine (heap_Head.calls 0 f1 k _ _ _ HHD.out).mono ?_; rintro e W2_ ⟨rfl, hb_⟩; replace HA := HA.drew.call hb_; clear hb_; have hz1 := HA.cell (i := 1) (j := 0) rfl rfl; have hs1 := HA.rcell (i := 2) (j := a.toNat) rfl hju; have hs2 := HA.rfree (i := 2) (j := a.toNat) rfl)
  all_goals
   replace HA := HA.rput (j := a.toNat) (i := 2) (.int .u32 hd) rfl
   rw [← List.map_set] at HA
   generalize World.setCell W2_ _ _ = W9 at HA ⊢
   clear hz0 hz1 hs1 hs2 h2
   have hmf : ∀ (fn : Fn) (first cap : Array Value) (w : World), (Instr.makeFunc fn first cap).run Try.prog w = .ok (.func fn first cap) w := fun _ _ _ _ => rfl
   have v3 : IntKind.i64.wrap (1 + (k : Int)) = 1 + (k : Int) := IntWalk.i64_in _ (by omega)
   have v4 : IntKind.i64.wrap (a + (1 + (k : Int))) = a + (1 + (k : Int)) := IntWalk.i64_in _ (by omega)
   have v5 : IntKind.i64.wrap (4 * a) = 4 * a := IntWalk.i64_in _ (by omega)
   have v6 : IntKind.u32.wrap (4 * a) = 4 * a := by unfold IntKind.wrap; simp [IntKind.bits, IntKind.signed]; omega
   dsimp only [List.set] at HA
   go_wp2_with (first | (go_at_call 46; refine (HPUT.out gx nn cc (m.set a.toNat hd) _ A9 (by have := HM.out; simpa using this) HA9.out (ly_F HFF.out HA.1) (ly_ne HA) (HA.at (i := 0) rfl) HNN.out (HA.sub (List.sublist_cons_self _ _)).givens).mono ?_; rintro e W_ ⟨rfl, hk_⟩; replace HA := hp_join (HA.sub (List.sublist_cons_self _ _)) hk_; clear hk_) | ((with_reducible refine gate_ld rfl ?_); (first | refine aw_load 0 rfl rfl HA rfl rfl rfl ?_ ?_ | refine aw_load 1 rfl rfl HA rfl rfl rfl ?_ ?_); kernel_rfl; simp only [Act.put, List.setIfInBounds_toArray, List.set_cons_succ, List.set_cons_zero]) | ((with_reducible refine gate_st rfl ?_); (first | refine aw_store 0 (v := .int _ _) rfl rfl rfl rfl rfl HA rfl rfl rfl ?_ ?_ | refine aw_store 1 (v := .int _ _) rfl rfl rfl rfl rfl HA rfl rfl rfl ?_ ?_); kernel_rfl; clear HA; intro W_ HA; dsimp only [List.set, List.take, List.cons_append, List.nil_append] at HA))
   try go_ret
   rw [HP.out]
   exact ⟨rfl, HA⟩
set_option maxHeartbeats 8000000 in
set_option maxRecDepth 100000 in
theorem hLay.clo (gl mg n cap : Nat) (a : Int) (m : List Int) (x : S34) (A : Option Addr) (c : Nat) (W : World) (d : Nat) (h3 : x.f0 = 3) (ha0 : 0 ≤ a) (hhd : headOk 1 0 ((x.f2.length : Int) + 1)) (hf1 : 0 ≤ x.f1 ∧ x.f1 ≤ 16383) (hk9 : x.f2.length ≤ 255) (hmn : m.length = n) (hn9 : n ≤ 1000000) (hnc : n ≤ cap) (hsum : a + wordsV (d + 1) x ≤ n) (hF : Kd.F k34 W (fun k => k ≠ gl ∧ k ≠ mg) A x.f2.length x.f2)
    (HIH : ∀ (y : S34) (A : Option Addr) (c : Nat) (a : Int) (m' : List Int) (W1 : World), y ∈ x.f2 → y.f2.length ≤ c → m'.length = n → 0 ≤ a → a + wordsV d y ≤ n → Kd.F k34 W1 (fun k => k ≠ gl ∧ k ≠ mg) A y.f2.length y.f2 → Aw (inL [(gl, Blk.c 56 []), (mg, Blk.c 56 [])]) W1 W1 [lyT gl mg n cap a, lyM mg cap m'] → Calls Try.prog 30 #[.pointer (some ⟨gl, 0, none⟩), .agg #[.int .i64 y.f0, .int .i64 y.f1, .slice A y.f2.length c]] W1 (LayPost gl mg n cap W1 (layV d y (m', a))))
    (HA : Aw (inL [(gl, Blk.c 56 []), (mg, Blk.c 56 [])]) W W [lyT gl mg n cap a, lyM mg cap m]) :
    Calls Try.prog 30 #[.pointer (some ⟨gl, 0, none⟩), .agg #[.int .i64 x.f0, .int .i64 x.f1, .slice A x.f2.length c]] W (LayPost gl mg n cap W (layV (d + 1) x (m, a))) := by
  have hws := wordsV_clo h3 (d := d)
  rw [layV_clo h3]
  have hw1 := wordsV_sum d x.f2
  have hroom : a + 1 + 1 + (x.f2.length : Int) + (x.f2.map (wordsV d)).sum ≤ n := by omega
  have HPUT := Aside0.mk (fun (gx nn cc : Nat) (m1 : List Int) (W1 : World) (A9 : Option Addr) (hm1 : m1.length = n) (hA9 : 0 < x.f2.length → A9 = some ⟨mg, (a + 1 + 1).toNat, none⟩) (hFF : Kd.F k34 W1 (fun k => k ≠ gl ∧ k ≠ mg) A x.f2.length x.f2) (hgx : gx ≠ gl ∧ gx ≠ mg) (hx : W1.heap[gx]? = some (.cells #[.int .i64 x.f0, .int .i64 x.f1, .slice A x.f2.length c] 34 (0, 0))) (hnn : x.f2.length ≤ nn) HA1 =>
    hLay.put d gl mg gx n cap (a + 1 + 1).toNat nn cc (a + (1 + ((x.f2.length : Int) + 1))) m1 x.f2 A c W1 x.f0 x.f1 A9 hA9 (by omega) (by omega) hFF hgx hx (by omega) hnn (by omega) (fun y A c a m' W1 h1 h2 h3 h4 h5 => HIH y A c a m' W1 h1 h2 (h3.trans hm1) h4 (by omega)) HA1)
  rw [show (((a + 1 + 1).toNat : Nat) : Int) = a + 1 + 1 by omega] at HPUT
  have HFF := Aside0.mk hF
  obtain ⟨nn, hnne⟩ : ∃ nn, n - (a + 1 + 1).toNat = nn := ⟨_, rfl⟩
  obtain ⟨cc, hcce⟩ : ∃ cc, cap - (a + 1 + 1).toNat = cc := ⟨_, rfl⟩
  have hnn : x.f2.length ≤ nn := by omega
  obtain ⟨ly_i, ly_inf, ly_size⟩ := ly_inf_ex
  have hcut := cut_from (P := Try.prog) 30 22 .i64 Try.underlying30 ly_inf 1 ly_size (some ⟨mg, 0, none⟩) n cap (a + 1 + 1) (by omega) (by omega)
  obtain ⟨A9, hA⟩ : ∃ A9, (if cap = (a + 1 + 1).toNat then (some ⟨mg, 0, none⟩ : Option Addr) else (some ⟨mg, 0, none⟩ : Option Addr).map (·.add ((a + 1 + 1).toNat * 1))) = A9 := ⟨_, rfl⟩
  rw [hA, hnne, hcce] at hcut
  have HA9 : Aside0 (0 < x.f2.length → A9 = some ⟨mg, (a + 1 + 1).toNat, none⟩) := ⟨fun h0 => by rw [← hA, if_neg (by omega), Nat.mul_one]; exact congrArg some (ly_add mg _)⟩
  have HNN := Aside0.mk hnn
  clear hA hnn ly_inf ly_size hF HIH
  obtain ⟨f0, h0⟩ : ∃ y, x.f0 = y := ⟨_, rfl⟩
  obtain ⟨f1, hf⟩ : ∃ y, x.f1 = y := ⟨_, rfl⟩
  obtain ⟨k, hk⟩ : ∃ y, x.f2.length = y := ⟨_, rfl⟩
  obtain ⟨sm, hsm⟩ : ∃ y, (x.f2.map (wordsV d)).sum = y := ⟨_, rfl⟩
  obtain ⟨wd, hwd⟩ : ∃ y, wordsV (d + 1) x = y := ⟨_, rfl⟩
  obtain ⟨KD, hkd⟩ : ∃ y, layKids (layV d) x.f2 = y := ⟨_, rfl⟩
  rw [hkd, hk, hf] 
  rw [h0] at h3 HPUT ⊢
  rw [hf, hk, hkd] at HPUT
  rw [hk] at hhd hk9 hroom HFF HA9 HNN
  rw [hsm] at hroom hw1
  rw [hf] at hf1
  have c1 : (f0 == 1) = false := by rw [h3]; rfl
  have c3 : (f0 == 3) = true := by rw [h3]; rfl
  clear hws hsum h0 hf hk hsm hwd hkd hnne hcce h3
  obtain ⟨hd, hhde⟩ : ∃ y : Int, 1 + 2 * 1 + 16 * 0 + 16384 * ((k : Int) + 1) = y := ⟨_, rfl⟩
  rw [hhde]
  have HHD := Aside0.mk (heap_Head_eq 1 0 ((k : Int) + 1))
  rw [if_pos hhd, hhde] at HHD
  obtain ⟨P, HP⟩ : ∃ P : Ending → World → Prop, Aside0 (P = LayPost gl mg n cap W (4 * a, KD (a + 1 + 1) (((m.set (a + 1).toNat (2 * f1 + 1)).set a.toNat hd), a + (1 + ((k : Int) + 1))))) := ⟨_, ⟨rfl⟩⟩
  rw [← HP.out]
  have w1 : IntKind.i64.wrap (a + 1) = a + 1 := IntWalk.i64_in _ (by omega)
  have HM := Aside0.mk hmn
  have hjm : a.toNat < m.length := by omega
  have hju0 : a.toNat < ((m.set (a + 1).toNat (2 * f1 + 1)).map (Value.int .u32)).length := by simpa using hjm
  obtain ⟨u, hju⟩ : ∃ u, ((m.set (a + 1).toNat (2 * f1 + 1)).map (Value.int .u32))[a.toNat]? = some u := ⟨_, List.getElem?_eq_getElem hju0⟩
  have hjm1 : (a + 1).toNat < m.length := by omega
  obtain ⟨u1, hju1⟩ : ∃ u, (m.map (Value.int .u32))[(a + 1).toNat]? = some u := ⟨_, List.getElem?_eq_getElem (by simpa using hjm1)⟩
  have w5 : IntKind.i64.wrap (2 * f1) = 2 * f1 := IntWalk.i64_in _ (by omega)
  have w6 : IntKind.i64.wrap (2 * f1 + 1) = 2 * f1 + 1 := IntWalk.i64_in _ (by omega)
  have w7 : IntKind.u32.wrap (2 * f1 + 1) = 2 * f1 + 1 := by unfold IntKind.wrap; simp [IntKind.bits, IntKind.signed]; omega
  have w8 : IntKind.i64.wrap ((k : Int) + 1) = (k : Int) + 1 := IntWalk.i64_in _ (by omega)
  have w9 : IntKind.i64.wrap (a + 1 + 1) = a + 1 + 1 := IntWalk.i64_in _ (by omega)
  have i1 : decide (0 ≤ a) = true := decide_eq_true ha0
  have han : a < (n : Int) := by omega
  have i2 : decide (a < (n : Int)) = true := decide_eq_true (by omega)
  have i3 : decide (0 ≤ a + 1) = true := decide_eq_true (by omega)
  have i4 : a + 1 < (n : Int) := by omega
  clear hmn hhd hhde
  have HA0 := Aside0.mk HA
  go_enter Try.func30, Try.ntmps30
  go_wp2_with (first | ((with_reducible refine gate_dst (N := 3) rfl ?_); refine aw_box rfl rfl rfl HA ?_; clear HA; intro gx W_ HA; simp only [Act.put, List.setIfInBounds_toArray, List.set_cons_succ, List.set_cons_zero]) | ((with_reducible refine gate_ld rfl ?_); (first | refine aw_load 0 rfl rfl HA rfl rfl rfl ?_ ?_ | refine aw_load 1 rfl rfl HA rfl rfl rfl ?_ ?_ | refine aw_load 2 rfl rfl HA rfl rfl rfl ?_ ?_); kernel_rfl; simp only [Act.put, List.setIfInBounds_toArray, List.set_cons_succ, List.set_cons_zero]))
  have hx1 := HA.drew.cell (i := 1) (j := 1) rfl rfl
  go_region
  have hy1 := HA.drew.drew.cell (i := 0) (j := 1) rfl rfl
  have hy2 := HA.drew.drew.cell (i := 0) (j := 2) rfl rfl
  go_wp2
  go_region
  replace HA := HA.drew.drew
  clear hx1 hy1 hy2
  generalize World.drew (World.drew _) = W8 at HA ⊢
  go_wp2_with (first | ((with_reducible refine gate_dst (N := 3) rfl ?_); refine aw_box rfl rfl rfl HA ?_; clear HA; intro gx W_ HA; simp only [Act.put, List.setIfInBounds_toArray, List.set_cons_succ, List.set_cons_zero]) | ((with_reducible refine gate_ld rfl ?_); (first | refine aw_load 0 rfl rfl HA rfl rfl rfl ?_ ?_ | refine aw_load 1 rfl rfl HA rfl rfl rfl ?_ ?_ | refine aw_load 2 rfl rfl HA rfl rfl rfl ?_ ?_); kernel_rfl; simp only [Act.put, List.setIfInBounds_toArray, List.set_cons_succ, List.set_cons_zero]))
  have hz0 := HA.drew.cell (i := 1) (j := 0) rfl rfl
  have hz1 := HA.drew.cell (i := 0) (j := 1) rfl rfl
  have hs1 := HA.drew.rcell (i := 2) (j := (a + 1).toNat) rfl hju1
  have hs2 := HA.drew.rfree (i := 2) (j := (a + 1).toNat) rfl
  go_region
  replace HA := (HA.rput (j := (a + 1).toNat) (i := 2) (.int .u32 (2 * f1 + 1)) rfl).drew
  rw [← List.map_set] at HA
  clear hz0 hz1 hs1 hs2
  generalize World.drew (World.setCell _ _ _) = W7 at HA ⊢
  dsimp only [List.set] at HA
  go_wp2_with (first | ((with_reducible refine gate_dst (N := 3) rfl ?_); refine aw_box rfl rfl rfl HA ?_; clear HA; intro gx W_ HA; simp only [Act.put, List.setIfInBounds_toArray, List.set_cons_succ, List.set_cons_zero]) | ((with_reducible refine gate_ld rfl ?_); (first | refine aw_load 0 rfl rfl HA rfl rfl rfl ?_ ?_ | refine aw_load 1 rfl rfl HA rfl rfl rfl ?_ ?_ | refine aw_load 2 rfl rfl HA rfl rfl rfl ?_ ?_); kernel_rfl; simp only [Act.put, List.setIfInBounds_toArray, List.set_cons_succ, List.set_cons_zero]))
  have h2 := HA.drew
  have hz0 := h2.cell (i := 1) (j := 0) rfl rfl
  go_region_law (go_simp; go_at_call 8; refine (heap_Head.calls 1 0 ((k : Int) + 1) _ _ _ HHD.out).mono ?_; rintro e W2_ ⟨rfl, hb_⟩; replace HA := HA.drew.call hb_; clear hb_; have hz1 := HA.cell (i := 1) (j := 0) rfl rfl; have hs1 := HA.rcell (i := 2) (j := a.toNat) rfl hju; have hs2 := HA.rfree (i := 2) (j := a.toNat) rfl)
  all_goals
   replace HA := HA.rput (j := a.toNat) (i := 2) (.int .u32 hd) rfl
   rw [← List.map_set] at HA
   generalize World.setCell W2_ _ _ = W9 at HA ⊢
   clear hz0 hz1 hs1 hs2 h2
   have hmf : ∀ (fn : Fn) (first cap : Array Value) (w : World), (Instr.makeFunc fn first cap).run Try.prog w = .ok (.func fn first cap) w := fun _ _ _ _ => rfl
   have v3 : IntKind.i64.wrap (1 + ((k : Int) + 1)) = 1 + ((k : Int) + 1) := IntWalk.i64_in _ (by omega)
   have v4 : IntKind.i64.wrap (a + (1 + ((k : Int) + 1))) = a + (1 + ((k : Int) + 1)) := IntWalk.i64_in _ (by omega)
   have v5 : IntKind.i64.wrap (4 * a) = 4 * a := IntWalk.i64_in _ (by omega)
   have v6 : IntKind.u32.wrap (4 * a) = 4 * a := by unfold IntKind.wrap; simp [IntKind.bits, IntKind.signed]; omega
   dsimp only [List.set] at HA
   go_wp2_with (first | (go_at_call 46; refine (HPUT.out gx nn cc ((m.set (a + 1).toNat (2 * f1 + 1)).set a.toNat hd) _ A9 (by have := HM.out; simpa using this) HA9.out (ly_F HFF.out HA.1) (ly_ne HA) (HA.at (i := 0) rfl) HNN.out (HA.sub (List.sublist_cons_self _ _)).givens).mono ?_; rintro e W_ ⟨rfl, hk_⟩; replace HA := hp_join (HA.sub (List.sublist_cons_self _ _)) hk_; clear hk_) | ((with_reducible refine gate_ld rfl ?_); (first | refine aw_load 0 rfl rfl HA rfl rfl rfl ?_ ?_ | refine aw_load 1 rfl rfl HA rfl rfl rfl ?_ ?_); kernel_rfl; simp only [Act.put, List.setIfInBounds_toArray, List.set_cons_succ, List.set_cons_zero]) | ((with_reducible refine gate_st rfl ?_); (first | refine aw_store 0 (v := .int _ _) rfl rfl rfl rfl rfl HA rfl rfl rfl ?_ ?_ | refine aw_store 1 (v := .int _ _) rfl rfl rfl rfl rfl HA rfl rfl rfl ?_ ?_); kernel_rfl; clear HA; intro W_ HA; dsimp only [List.set, List.take, List.cons_append, List.nil_append] at HA))
   try go_ret
   rw [HP.out]
   exact ⟨rfl, HA⟩
end Go.Proofs.Ytaddjeegplfjiaa.Q

-- Made by a program of this session (wip/tools/pr.py) out of the translation, over the kit's printer. Not trusted: Lean checks it.
import Derived.Test.YtgnfobnlipjedaaDoorQx0
import Derived.Test.YtgnfobnlipjedaaDoorQx1
import Derived.Test.YtgnfobnlipjedaaDoorQx2
import Derived.Test.YtgnfobnlipjedaaDoorHnumDo
import Derived.Test.YtgnfobnlipjedaaDoorHnumRead
import Derived.Test.YtgnfobnlipjedaaDoorHnumShow
import Derived.Test.YtgnfobnlipjedaaDoorLaid
namespace Go.Proofs.YtgnfobnlipjedaaDoor.Q
open Go.RowKit Go.Proofs.YtgnfobnlipjedaaDoorW.PrintWords Go.Proofs.YtgnfobnlipjedaaDoorW.PrintLast Go.Proofs.YtgnfobnlipjedaaDoorW.PrintMore
attribute [local go_sem] max2_int min2_int max_two min_two max_three min_three max_four min_four   -- for this text's walks alone
set_option linter.unusedVariables false
set_option linter.unusedSimpArgs false

/-! ### camletlaw01_knows: function 9 -/
def camletlaw01_knows.f  : Option (Bool) := (num_Do.f 4 (-7) 2).bind fun bt107 => ((num_Do.f 5 (-7) 2).bind fun bt109 => ((num_Wrap.f 1073741824).bind fun t111 => (if t111 = (-1073741824) then (if bt107.1 = (-3) then (if bt109.1 = (-1) then (if (wrap64 (bt107.2 + bt109.2)) = 0 then ((num_Box.f (-1)).bind fun t112 => (some (t112 == 4294967295))) else (some false)) else (some false)) else (some false)) else (some false))))
set_option maxHeartbeats 8000000 in
set_option maxRecDepth 100000 in
theorem camletlaw01_knows.calls  (r : Bool) (w : World) (h : camletlaw01_knows.f  = some r) :
    Calls Tryd.prog 9 #[] w fun e w' => e = .returned (.bool r) ∧ Below w.heap.size w w' := by
  have HB := Aside0.mk (Below.refl w.heap.size w)
  have H : ((num_Do.f 4 (-7) 2).bind fun bt107 => ((num_Do.f 5 (-7) 2).bind fun bt109 => ((num_Wrap.f 1073741824).bind fun t111 => (if t111 = (-1073741824) then (if bt107.1 = (-3) then (if bt109.1 = (-1) then (if (wrap64 (bt107.2 + bt109.2)) = 0 then ((num_Box.f (-1)).bind fun t112 => (some (t112 == 4294967295))) else (some false)) else (some false)) else (some false)) else (some false))))) = some r := h
  clear h
  replace H := Option.bind_eq_some_iff.mp H
  obtain ⟨⟨t107, t108⟩, A10, H⟩ := H
  replace H : ((num_Do.f 5 (-7) 2).bind fun bt109 => ((num_Wrap.f 1073741824).bind fun t111 => (if t111 = (-1073741824) then (if t107 = (-3) then (if bt109.1 = (-1) then (if (wrap64 (t108 + bt109.2)) = 0 then ((num_Box.f (-1)).bind fun t112 => (some (t112 == 4294967295))) else (some false)) else (some false)) else (some false)) else (some false)))) = some r := H
  have A1 := Aside0.mk A10
  clear A10
  replace H := Option.bind_eq_some_iff.mp H
  obtain ⟨⟨t109, t110⟩, A20, H⟩ := H
  replace H : ((num_Wrap.f 1073741824).bind fun t111 => (if t111 = (-1073741824) then (if t107 = (-3) then (if t109 = (-1) then (if (wrap64 (t108 + t110)) = 0 then ((num_Box.f (-1)).bind fun t112 => (some (t112 == 4294967295))) else (some false)) else (some false)) else (some false)) else (some false))) = some r := H
  have A2 := Aside0.mk A20
  clear A20
  replace H := Option.bind_eq_some_iff.mp H
  obtain ⟨t111, A30, H⟩ := H
  replace H : (if t111 = (-1073741824) then (if t107 = (-3) then (if t109 = (-1) then (if (wrap64 (t108 + t110)) = 0 then ((num_Box.f (-1)).bind fun t112 => (some (t112 == 4294967295))) else (some false)) else (some false)) else (some false)) else (some false)) = some r := H
  have A3 := Aside0.mk A30
  clear A30
  by_cases c4 : t111 = (-1073741824)
  · rw [if_pos c4] at H
    have c4b0 : (t111 == (-1073741824)) = true := beq_iff_eq.mpr c4
    have c4b1 : (t111 != (-1073741824)) = false := bne_eq_false_iff_eq.mpr c4
    clear c4
    by_cases c5 : t107 = (-3)
    · rw [if_pos c5] at H
      have c5b0 : (t107 == (-3)) = true := beq_iff_eq.mpr c5
      have c5b1 : (t107 != (-3)) = false := bne_eq_false_iff_eq.mpr c5
      clear c5
      by_cases c6 : t109 = (-1)
      · rw [if_pos c6] at H
        have c6b0 : (t109 == (-1)) = true := beq_iff_eq.mpr c6
        have c6b1 : (t109 != (-1)) = false := bne_eq_false_iff_eq.mpr c6
        clear c6
        by_cases c7 : (wrap64 (t108 + t110)) = 0
        · rw [if_pos c7] at H
          have c7b0 : ((wrap64 (t108 + t110)) == 0) = true := beq_iff_eq.mpr c7
          have c7b1 : ((wrap64 (t108 + t110)) != 0) = false := bne_eq_false_iff_eq.mpr c7
          clear c7
          replace H := Option.bind_eq_some_iff.mp H
          obtain ⟨t112, A80, H⟩ := H
          replace H : (some (t112 == 4294967295)) = some r := H
          have A8 := Aside0.mk A80
          clear A80
          obtain rfl := Option.some.inj H
          go_enter Tryd.func9, Tryd.ntmps9
          go_wp2_with (first | (go_at_call 16; (with_reducible refine (num_Do.calls 4 (-7) 2 t107 t108 _ A1.out).mono ?_); rintro e w9 ⟨rfl, hb⟩; have n0_ := Aside0.mk (below_step (by repeat (first | (with_reducible first | exact HB.out | apply below_alloc | apply pw_below_drewN | apply below_drew1) | exact HB.out)) hb); clear HB; have HB := n0_; clear n0_; (try clear hb); (try clear hb2); (try clear hk); (try clear hi)) | (go_at_call 16; (with_reducible refine (num_Do.calls 5 (-7) 2 t109 t110 _ A2.out).mono ?_); rintro e w10 ⟨rfl, hb⟩; have n0_ := Aside0.mk (below_step (by repeat (first | (with_reducible first | exact HB.out | apply below_alloc | apply pw_below_drewN | apply below_drew1) | exact HB.out)) hb); clear HB; have HB := n0_; clear n0_; (try clear hb); (try clear hb2); (try clear hk); (try clear hi)) | (go_at_call 12; (with_reducible refine (num_Wrap.calls 1073741824 t111 _ A3.out).mono ?_); rintro e w' ⟨rfl, ⟨nd, rfl⟩⟩) | (go_at_call 11; (with_reducible refine (num_Box.calls (-1) t112 _ A8.out).mono ?_); rintro e w' ⟨rfl, ⟨nd, rfl⟩⟩))
          go_ret
          exact ⟨by first | rfl | (simp [errW_none, errW_some] <;> rfl) | (simp [*, errW_none, errW_some] <;> rfl), by repeat (first | (with_reducible first | exact HB.out | apply below_alloc | apply pw_below_drewN | apply below_drew1) | exact HB.out)⟩
        · rw [if_neg c7] at H
          have c7b0 : ((wrap64 (t108 + t110)) == 0) = false := beq_eq_false_iff_ne.mpr c7
          have c7b1 : ((wrap64 (t108 + t110)) != 0) = true := bne_iff_ne.mpr c7
          obtain rfl := Option.some.inj H
          go_enter Tryd.func9, Tryd.ntmps9
          go_wp2_with (first | (go_at_call 16; (with_reducible refine (num_Do.calls 4 (-7) 2 t107 t108 _ A1.out).mono ?_); rintro e w11 ⟨rfl, hb⟩; have n0_ := Aside0.mk (below_step (by repeat (first | (with_reducible first | exact HB.out | apply below_alloc | apply pw_below_drewN | apply below_drew1) | exact HB.out)) hb); clear HB; have HB := n0_; clear n0_; (try clear hb); (try clear hb2); (try clear hk); (try clear hi)) | (go_at_call 16; (with_reducible refine (num_Do.calls 5 (-7) 2 t109 t110 _ A2.out).mono ?_); rintro e w12 ⟨rfl, hb⟩; have n0_ := Aside0.mk (below_step (by repeat (first | (with_reducible first | exact HB.out | apply below_alloc | apply pw_below_drewN | apply below_drew1) | exact HB.out)) hb); clear HB; have HB := n0_; clear n0_; (try clear hb); (try clear hb2); (try clear hk); (try clear hi)) | (go_at_call 12; (with_reducible refine (num_Wrap.calls 1073741824 t111 _ A3.out).mono ?_); rintro e w' ⟨rfl, ⟨nd, rfl⟩⟩))
          go_ret
          exact ⟨by first | rfl | (simp [errW_none, errW_some] <;> rfl) | (simp [*, errW_none, errW_some] <;> rfl), by repeat (first | (with_reducible first | exact HB.out | apply below_alloc | apply pw_below_drewN | apply below_drew1) | exact HB.out)⟩
      · rw [if_neg c6] at H
        have c6b0 : (t109 == (-1)) = false := beq_eq_false_iff_ne.mpr c6
        have c6b1 : (t109 != (-1)) = true := bne_iff_ne.mpr c6
        obtain rfl := Option.some.inj H
        go_enter Tryd.func9, Tryd.ntmps9
        go_wp2_with (first | (go_at_call 16; (with_reducible refine (num_Do.calls 4 (-7) 2 t107 t108 _ A1.out).mono ?_); rintro e w13 ⟨rfl, hb⟩; have n0_ := Aside0.mk (below_step (by repeat (first | (with_reducible first | exact HB.out | apply below_alloc | apply pw_below_drewN | apply below_drew1) | exact HB.out)) hb); clear HB; have HB := n0_; clear n0_; (try clear hb); (try clear hb2); (try clear hk); (try clear hi)) | (go_at_call 16; (with_reducible refine (num_Do.calls 5 (-7) 2 t109 t110 _ A2.out).mono ?_); rintro e w14 ⟨rfl, hb⟩; have n0_ := Aside0.mk (below_step (by repeat (first | (with_reducible first | exact HB.out | apply below_alloc | apply pw_below_drewN | apply below_drew1) | exact HB.out)) hb); clear HB; have HB := n0_; clear n0_; (try clear hb); (try clear hb2); (try clear hk); (try clear hi)) | (go_at_call 12; (with_reducible refine (num_Wrap.calls 1073741824 t111 _ A3.out).mono ?_); rintro e w' ⟨rfl, ⟨nd, rfl⟩⟩))
        go_ret
        exact ⟨by first | rfl | (simp [errW_none, errW_some] <;> rfl) | (simp [*, errW_none, errW_some] <;> rfl), by repeat (first | (with_reducible first | exact HB.out | apply below_alloc | apply pw_below_drewN | apply below_drew1) | exact HB.out)⟩
    · rw [if_neg c5] at H
      have c5b0 : (t107 == (-3)) = false := beq_eq_false_iff_ne.mpr c5
      have c5b1 : (t107 != (-3)) = true := bne_iff_ne.mpr c5
      obtain rfl := Option.some.inj H
      go_enter Tryd.func9, Tryd.ntmps9
      go_wp2_with (first | (go_at_call 16; (with_reducible refine (num_Do.calls 4 (-7) 2 t107 t108 _ A1.out).mono ?_); rintro e w15 ⟨rfl, hb⟩; have n0_ := Aside0.mk (below_step (by repeat (first | (with_reducible first | exact HB.out | apply below_alloc | apply pw_below_drewN | apply below_drew1) | exact HB.out)) hb); clear HB; have HB := n0_; clear n0_; (try clear hb); (try clear hb2); (try clear hk); (try clear hi)) | (go_at_call 16; (with_reducible refine (num_Do.calls 5 (-7) 2 t109 t110 _ A2.out).mono ?_); rintro e w16 ⟨rfl, hb⟩; have n0_ := Aside0.mk (below_step (by repeat (first | (with_reducible first | exact HB.out | apply below_alloc | apply pw_below_drewN | apply below_drew1) | exact HB.out)) hb); clear HB; have HB := n0_; clear n0_; (try clear hb); (try clear hb2); (try clear hk); (try clear hi)) | (go_at_call 12; (with_reducible refine (num_Wrap.calls 1073741824 t111 _ A3.out).mono ?_); rintro e w' ⟨rfl, ⟨nd, rfl⟩⟩))
      go_ret
      exact ⟨by first | rfl | (simp [errW_none, errW_some] <;> rfl) | (simp [*, errW_none, errW_some] <;> rfl), by repeat (first | (with_reducible first | exact HB.out | apply below_alloc | apply pw_below_drewN | apply below_drew1) | exact HB.out)⟩
  · rw [if_neg c4] at H
    have c4b0 : (t111 == (-1073741824)) = false := beq_eq_false_iff_ne.mpr c4
    have c4b1 : (t111 != (-1073741824)) = true := bne_iff_ne.mpr c4
    obtain rfl := Option.some.inj H
    go_enter Tryd.func9, Tryd.ntmps9
    go_wp2_with (first | (go_at_call 16; (with_reducible refine (num_Do.calls 4 (-7) 2 t107 t108 _ A1.out).mono ?_); rintro e w17 ⟨rfl, hb⟩; have n0_ := Aside0.mk (below_step (by repeat (first | (with_reducible first | exact HB.out | apply below_alloc | apply pw_below_drewN | apply below_drew1) | exact HB.out)) hb); clear HB; have HB := n0_; clear n0_; (try clear hb); (try clear hb2); (try clear hk); (try clear hi)) | (go_at_call 16; (with_reducible refine (num_Do.calls 5 (-7) 2 t109 t110 _ A2.out).mono ?_); rintro e w18 ⟨rfl, hb⟩; have n0_ := Aside0.mk (below_step (by repeat (first | (with_reducible first | exact HB.out | apply below_alloc | apply pw_below_drewN | apply below_drew1) | exact HB.out)) hb); clear HB; have HB := n0_; clear n0_; (try clear hb); (try clear hb2); (try clear hk); (try clear hi)) | (go_at_call 12; (with_reducible refine (num_Wrap.calls 1073741824 t111 _ A3.out).mono ?_); rintro e w' ⟨rfl, ⟨nd, rfl⟩⟩))
    go_ret
    exact ⟨by first | rfl | (simp [errW_none, errW_some] <;> rfl) | (simp [*, errW_none, errW_some] <;> rfl), by repeat (first | (with_reducible first | exact HB.out | apply below_alloc | apply pw_below_drewN | apply below_drew1) | exact HB.out)⟩

/-! ### camletlaw01_NumTexts: function 3 -/
def camletlaw01_NumTexts.f (k : Nat) (a0 : Int) (a1 : ByteArray) (a2 : Int) : Option (Bool) := (num_Read.f a1 a2).bind fun bt113 => ((camletref01_Read.f k a1 a2).bind fun bt115 => ((num_Show.f a0).bind fun t117 => ((camletref01_Show.f k a0).bind fun t118 => (if t117.toList = t118.toList then (if bt113.1 = bt115.1 then (if bt113.2 = bt115.2 then ((camletlaw01_knows.f).bind fun t119 => (some t119)) else (some false)) else (some false)) else (some false)))))
theorem camletlaw01_NumTexts.mono : ∀ a0 a1 a2 k, LeO (camletlaw01_NumTexts.f k a0 a1 a2) (camletlaw01_NumTexts.f (k + 1) a0 a1 a2) := by
  intro a0 a1 a2 k
  unfold camletlaw01_NumTexts.f
  repeat' first
      | (with_reducible exact camletref01_Read.mono _ _ _)
      | (with_reducible exact camletref01_Show.mono _ _)
      | (with_reducible exact LeO.refl _)
      | (with_reducible exact LeO.none _)
      | (with_reducible refine LeO.ite ?_ ?_)
      | (with_reducible refine LeO.bind ?_ (fun _ => ?_))
      | exact camletref01_Read.mono _ _ _
      | exact camletref01_Show.mono _ _
      | exact LeO.none _
      | refine LeO.ite ?_ ?_
      | refine LeO.bind ?_ (fun _ => ?_)
set_option maxHeartbeats 8000000 in
set_option maxRecDepth 100000 in
theorem camletlaw01_NumTexts.calls (k : Nat) (a0 : Int) (a1 : ByteArray) (a2 : Int) (r : Bool) (w : World) (hG : Laid w) (h : camletlaw01_NumTexts.f k a0 a1 a2 = some r) :
    Calls Tryd.prog 3 #[.int .i64 a0, .string a1, .int .i64 a2] w fun e w' => e = .returned (.bool r) ∧ Below w.heap.size w w' := by
  have HG := Aside0.mk hG
  clear hG
  have HB := Aside0.mk (Below.refl w.heap.size w)
  have H : ((num_Read.f a1 a2).bind fun bt113 => ((camletref01_Read.f k a1 a2).bind fun bt115 => ((num_Show.f a0).bind fun t117 => ((camletref01_Show.f k a0).bind fun t118 => (if t117.toList = t118.toList then (if bt113.1 = bt115.1 then (if bt113.2 = bt115.2 then ((camletlaw01_knows.f).bind fun t119 => (some t119)) else (some false)) else (some false)) else (some false)))))) = some r := h
  clear h
  replace H := Option.bind_eq_some_iff.mp H
  obtain ⟨⟨t113, t114⟩, A40, H⟩ := H
  replace H : ((camletref01_Read.f k a1 a2).bind fun bt115 => ((num_Show.f a0).bind fun t117 => ((camletref01_Show.f k a0).bind fun t118 => (if t117.toList = t118.toList then (if t113 = bt115.1 then (if t114 = bt115.2 then ((camletlaw01_knows.f).bind fun t119 => (some t119)) else (some false)) else (some false)) else (some false))))) = some r := H
  have A4 := Aside0.mk A40
  clear A40
  replace H := Option.bind_eq_some_iff.mp H
  obtain ⟨⟨t115, t116⟩, A50, H⟩ := H
  replace H : ((num_Show.f a0).bind fun t117 => ((camletref01_Show.f k a0).bind fun t118 => (if t117.toList = t118.toList then (if t113 = t115 then (if t114 = t116 then ((camletlaw01_knows.f).bind fun t119 => (some t119)) else (some false)) else (some false)) else (some false)))) = some r := H
  have A5 := Aside0.mk A50
  clear A50
  replace H := Option.bind_eq_some_iff.mp H
  obtain ⟨t117, A60, H⟩ := H
  replace H : ((camletref01_Show.f k a0).bind fun t118 => (if t117.toList = t118.toList then (if t113 = t115 then (if t114 = t116 then ((camletlaw01_knows.f).bind fun t119 => (some t119)) else (some false)) else (some false)) else (some false))) = some r := H
  have A6 := Aside0.mk A60
  clear A60
  replace H := Option.bind_eq_some_iff.mp H
  obtain ⟨t118, A70, H⟩ := H
  replace H : (if t117.toList = t118.toList then (if t113 = t115 then (if t114 = t116 then ((camletlaw01_knows.f).bind fun t119 => (some t119)) else (some false)) else (some false)) else (some false)) = some r := H
  have A7 := Aside0.mk A70
  clear A70
  by_cases c8 : t117.toList = t118.toList
  · rw [if_pos c8] at H
    have c8b0 : (t117.toList == t118.toList) = true := beq_iff_eq.mpr c8
    have c8b1 : (t117.toList != t118.toList) = false := bne_eq_false_iff_eq.mpr c8
    clear c8
    by_cases c9 : t113 = t115
    · rw [if_pos c9] at H
      have c9b0 : (t113 == t115) = true := beq_iff_eq.mpr c9
      have c9b1 : (t113 != t115) = false := bne_eq_false_iff_eq.mpr c9
      clear c9
      by_cases c10 : t114 = t116
      · rw [if_pos c10] at H
        have c10b0 : (t114 == t116) = true := beq_iff_eq.mpr c10
        have c10b1 : (t114 != t116) = false := bne_eq_false_iff_eq.mpr c10
        clear c10
        replace H := Option.bind_eq_some_iff.mp H
        obtain ⟨t119, A110, H⟩ := H
        replace H : (some t119) = some r := H
        have A11 := Aside0.mk A110
        clear A110
        obtain rfl := Option.some.inj H
        go_enter Tryd.func3, Tryd.ntmps3
        go_wp2_with (first | (go_at_call 5; (with_reducible refine (num_Read.calls a1 a2 t113 t114 _ ?side1 A4.out).mono ?_); (case side1 => exact Laid.mono HG.out (by repeat (first | (with_reducible first | exact HB.out | apply below_alloc | apply pw_below_drewN | apply below_drew1) | exact HB.out))); rintro e w12 ⟨rfl, hb⟩; have n0_ := Aside0.mk (below_step (by repeat (first | (with_reducible first | exact HB.out | apply below_alloc | apply pw_below_drewN | apply below_drew1) | exact HB.out)) hb); clear HB; have HB := n0_; clear n0_; (try clear hb); (try clear hb2); (try clear hk); (try clear hi)) | (go_at_call 6; (with_reducible refine (camletref01_Read.calls k a1 a2 t115 t116 _ A5.out).mono ?_); rintro e w' ⟨rfl, ⟨nd, rfl⟩⟩) | (go_at_call 7; (with_reducible refine (num_Show.calls a0 t117 _ ?side1 A6.out).mono ?_); (case side1 => exact Laid.mono HG.out (by repeat (first | (with_reducible first | exact HB.out | apply below_alloc | apply pw_below_drewN | apply below_drew1) | exact HB.out))); rintro e w13 ⟨rfl, hb⟩; have n0_ := Aside0.mk (below_step (by repeat (first | (with_reducible first | exact HB.out | apply below_alloc | apply pw_below_drewN | apply below_drew1) | exact HB.out)) hb); clear HB; have HB := n0_; clear n0_; (try clear hb); (try clear hb2); (try clear hk); (try clear hi)) | (go_at_call 8; (with_reducible refine (camletref01_Show.calls k a0 t118 _ A7.out).mono ?_); rintro e w14 ⟨rfl, hb⟩; have n0_ := Aside0.mk (below_step (by repeat (first | (with_reducible first | exact HB.out | apply below_alloc | apply pw_below_drewN | apply below_drew1) | exact HB.out)) hb); clear HB; have HB := n0_; clear n0_; (try clear hb); (try clear hb2); (try clear hk); (try clear hi)) | (go_at_call 9; (with_reducible refine (camletlaw01_knows.calls  t119 _ A11.out).mono ?_); rintro e w15 ⟨rfl, hb⟩; have n0_ := Aside0.mk (below_step (by repeat (first | (with_reducible first | exact HB.out | apply below_alloc | apply pw_below_drewN | apply below_drew1) | exact HB.out)) hb); clear HB; have HB := n0_; clear n0_; (try clear hb); (try clear hb2); (try clear hk); (try clear hi)))
        go_ret
        exact ⟨by first | rfl | (simp [errW_none, errW_some] <;> rfl) | (simp [*, errW_none, errW_some] <;> rfl), by repeat (first | (with_reducible first | exact HB.out | apply below_alloc | apply pw_below_drewN | apply below_drew1) | exact HB.out)⟩
      · rw [if_neg c10] at H
        have c10b0 : (t114 == t116) = false := beq_eq_false_iff_ne.mpr c10
        have c10b1 : (t114 != t116) = true := bne_iff_ne.mpr c10
        obtain rfl := Option.some.inj H
        go_enter Tryd.func3, Tryd.ntmps3
        go_wp2_with (first | (go_at_call 5; (with_reducible refine (num_Read.calls a1 a2 t113 t114 _ ?side1 A4.out).mono ?_); (case side1 => exact Laid.mono HG.out (by repeat (first | (with_reducible first | exact HB.out | apply below_alloc | apply pw_below_drewN | apply below_drew1) | exact HB.out))); rintro e w16 ⟨rfl, hb⟩; have n0_ := Aside0.mk (below_step (by repeat (first | (with_reducible first | exact HB.out | apply below_alloc | apply pw_below_drewN | apply below_drew1) | exact HB.out)) hb); clear HB; have HB := n0_; clear n0_; (try clear hb); (try clear hb2); (try clear hk); (try clear hi)) | (go_at_call 6; (with_reducible refine (camletref01_Read.calls k a1 a2 t115 t116 _ A5.out).mono ?_); rintro e w' ⟨rfl, ⟨nd, rfl⟩⟩) | (go_at_call 7; (with_reducible refine (num_Show.calls a0 t117 _ ?side1 A6.out).mono ?_); (case side1 => exact Laid.mono HG.out (by repeat (first | (with_reducible first | exact HB.out | apply below_alloc | apply pw_below_drewN | apply below_drew1) | exact HB.out))); rintro e w17 ⟨rfl, hb⟩; have n0_ := Aside0.mk (below_step (by repeat (first | (with_reducible first | exact HB.out | apply below_alloc | apply pw_below_drewN | apply below_drew1) | exact HB.out)) hb); clear HB; have HB := n0_; clear n0_; (try clear hb); (try clear hb2); (try clear hk); (try clear hi)) | (go_at_call 8; (with_reducible refine (camletref01_Show.calls k a0 t118 _ A7.out).mono ?_); rintro e w18 ⟨rfl, hb⟩; have n0_ := Aside0.mk (below_step (by repeat (first | (with_reducible first | exact HB.out | apply below_alloc | apply pw_below_drewN | apply below_drew1) | exact HB.out)) hb); clear HB; have HB := n0_; clear n0_; (try clear hb); (try clear hb2); (try clear hk); (try clear hi)))
        go_ret
        exact ⟨by first | rfl | (simp [errW_none, errW_some] <;> rfl) | (simp [*, errW_none, errW_some] <;> rfl), by repeat (first | (with_reducible first | exact HB.out | apply below_alloc | apply pw_below_drewN | apply below_drew1) | exact HB.out)⟩
    · rw [if_neg c9] at H
      have c9b0 : (t113 == t115) = false := beq_eq_false_iff_ne.mpr c9
      have c9b1 : (t113 != t115) = true := bne_iff_ne.mpr c9
      obtain rfl := Option.some.inj H
      go_enter Tryd.func3, Tryd.ntmps3
      go_wp2_with (first | (go_at_call 5; (with_reducible refine (num_Read.calls a1 a2 t113 t114 _ ?side1 A4.out).mono ?_); (case side1 => exact Laid.mono HG.out (by repeat (first | (with_reducible first | exact HB.out | apply below_alloc | apply pw_below_drewN | apply below_drew1) | exact HB.out))); rintro e w19 ⟨rfl, hb⟩; have n0_ := Aside0.mk (below_step (by repeat (first | (with_reducible first | exact HB.out | apply below_alloc | apply pw_below_drewN | apply below_drew1) | exact HB.out)) hb); clear HB; have HB := n0_; clear n0_; (try clear hb); (try clear hb2); (try clear hk); (try clear hi)) | (go_at_call 6; (with_reducible refine (camletref01_Read.calls k a1 a2 t115 t116 _ A5.out).mono ?_); rintro e w' ⟨rfl, ⟨nd, rfl⟩⟩) | (go_at_call 7; (with_reducible refine (num_Show.calls a0 t117 _ ?side1 A6.out).mono ?_); (case side1 => exact Laid.mono HG.out (by repeat (first | (with_reducible first | exact HB.out | apply below_alloc | apply pw_below_drewN | apply below_drew1) | exact HB.out))); rintro e w20 ⟨rfl, hb⟩; have n0_ := Aside0.mk (below_step (by repeat (first | (with_reducible first | exact HB.out | apply below_alloc | apply pw_below_drewN | apply below_drew1) | exact HB.out)) hb); clear HB; have HB := n0_; clear n0_; (try clear hb); (try clear hb2); (try clear hk); (try clear hi)) | (go_at_call 8; (with_reducible refine (camletref01_Show.calls k a0 t118 _ A7.out).mono ?_); rintro e w21 ⟨rfl, hb⟩; have n0_ := Aside0.mk (below_step (by repeat (first | (with_reducible first | exact HB.out | apply below_alloc | apply pw_below_drewN | apply below_drew1) | exact HB.out)) hb); clear HB; have HB := n0_; clear n0_; (try clear hb); (try clear hb2); (try clear hk); (try clear hi)))
      go_ret
      exact ⟨by first | rfl | (simp [errW_none, errW_some] <;> rfl) | (simp [*, errW_none, errW_some] <;> rfl), by repeat (first | (with_reducible first | exact HB.out | apply below_alloc | apply pw_below_drewN | apply below_drew1) | exact HB.out)⟩
  · rw [if_neg c8] at H
    have c8b0 : (t117.toList == t118.toList) = false := beq_eq_false_iff_ne.mpr c8
    have c8b1 : (t117.toList != t118.toList) = true := bne_iff_ne.mpr c8
    obtain rfl := Option.some.inj H
    go_enter Tryd.func3, Tryd.ntmps3
    go_wp2_with (first | (go_at_call 5; (with_reducible refine (num_Read.calls a1 a2 t113 t114 _ ?side1 A4.out).mono ?_); (case side1 => exact Laid.mono HG.out (by repeat (first | (with_reducible first | exact HB.out | apply below_alloc | apply pw_below_drewN | apply below_drew1) | exact HB.out))); rintro e w22 ⟨rfl, hb⟩; have n0_ := Aside0.mk (below_step (by repeat (first | (with_reducible first | exact HB.out | apply below_alloc | apply pw_below_drewN | apply below_drew1) | exact HB.out)) hb); clear HB; have HB := n0_; clear n0_; (try clear hb); (try clear hb2); (try clear hk); (try clear hi)) | (go_at_call 6; (with_reducible refine (camletref01_Read.calls k a1 a2 t115 t116 _ A5.out).mono ?_); rintro e w' ⟨rfl, ⟨nd, rfl⟩⟩) | (go_at_call 7; (with_reducible refine (num_Show.calls a0 t117 _ ?side1 A6.out).mono ?_); (case side1 => exact Laid.mono HG.out (by repeat (first | (with_reducible first | exact HB.out | apply below_alloc | apply pw_below_drewN | apply below_drew1) | exact HB.out))); rintro e w23 ⟨rfl, hb⟩; have n0_ := Aside0.mk (below_step (by repeat (first | (with_reducible first | exact HB.out | apply below_alloc | apply pw_below_drewN | apply below_drew1) | exact HB.out)) hb); clear HB; have HB := n0_; clear n0_; (try clear hb); (try clear hb2); (try clear hk); (try clear hi)) | (go_at_call 8; (with_reducible refine (camletref01_Show.calls k a0 t118 _ A7.out).mono ?_); rintro e w24 ⟨rfl, hb⟩; have n0_ := Aside0.mk (below_step (by repeat (first | (with_reducible first | exact HB.out | apply below_alloc | apply pw_below_drewN | apply below_drew1) | exact HB.out)) hb); clear HB; have HB := n0_; clear n0_; (try clear hb); (try clear hb2); (try clear hk); (try clear hi)))
    go_ret
    exact ⟨by first | rfl | (simp [errW_none, errW_some] <;> rfl) | (simp [*, errW_none, errW_some] <;> rfl), by repeat (first | (with_reducible first | exact HB.out | apply below_alloc | apply pw_below_drewN | apply below_drew1) | exact HB.out)⟩

/-! ### num_Unbox: function 10 -/
def num_Unbox.f (a0 : Int) : Option (Int) := some (wrap64 ((wrap32 (a0)) / 2))
set_option maxHeartbeats 8000000 in
set_option maxRecDepth 100000 in
theorem num_Unbox.calls (a0 : Int) (r : Int) (w : World) (h : num_Unbox.f a0 = some r) :
    Calls Tryd.prog 10 #[.int .u32 a0] w fun e w' => e = .returned (.int .i64 r) ∧ Drawn0 w w' := by
  have H : (some (wrap64 ((wrap32 (a0)) / 2))) = some r := h
  clear h
  obtain rfl := Option.some.inj H
  go_enter Tryd.func10, Tryd.ntmps10
  go_wp2
  go_ret
  exact ⟨by first | rfl | (simp; done) | (simp [*]; done), by repeat (first | exact Drawn0.refl _ | apply Drawn0.step)⟩

/-! ### num_IsInt: function 13 -/
def num_IsInt.f (a0 : Int) : Option (Bool) := some ((Go.bits .and .u32 a0 1) == 1)
set_option maxHeartbeats 8000000 in
set_option maxRecDepth 100000 in
theorem num_IsInt.calls (a0 : Int) (r : Bool) (w : World) (h : num_IsInt.f a0 = some r) :
    Calls Tryd.prog 13 #[.int .u32 a0] w fun e w' => e = .returned (.bool r) ∧ Drawn0 w w' := by
  have H : (some ((Go.bits .and .u32 a0 1) == 1)) = some r := h
  clear h
  obtain rfl := Option.some.inj H
  go_enter Tryd.func13, Tryd.ntmps13
  go_wp2
  go_ret
  exact ⟨by first | rfl | (simp; done) | (simp [*]; done), by repeat (first | exact Drawn0.refl _ | apply Drawn0.step)⟩

/-! ### camletlaw01_NumBack: function 4 -/
def camletlaw01_NumBack.j0 : Nat → Int → Bool → Option (Bool)
  | 0, _, _ => none
  | k + 1, x0, x29 => if x29 = true then (some false) else (if x0 < 0 then ((num_Show.f x0).bind fun t127 => (if (t127.size : Int) > 1 then ((num_Show.f x0).bind fun t128 => (if 0 < (t128.size : Int) then (if (bt t128 0) = 45 then ((camletlaw01_knows.f).bind fun t129 => (some t129)) else (some false)) else (none))) else (some false))) else ((num_Show.f x0).bind fun t130 => ((num_Read.f t130 x0).bind fun bt131 => (if bt131.1 = x0 then (if bt131.2 = 0 then ((camletlaw01_knows.f).bind fun t133 => (some t133)) else (some false)) else (some false)))))
def camletlaw01_NumBack.f (k : Nat) (a0 : Int) (a1 : Int) : Option (Bool) := (num_Box.f a0).bind fun t120 => ((num_Unbox.f t120).bind fun t121 => ((num_Wrap.f a0).bind fun t122 => (if t121 = t122 then ((num_IsInt.f t120).bind fun t123 => (if t123 = true then ((num_IsInt.f a1).bind fun t124 => (if t124 = true then ((num_Unbox.f a1).bind fun t125 => ((num_Box.f t125).bind fun t126 => (camletlaw01_NumBack.j0 k a0 (t126 != a1)))) else (camletlaw01_NumBack.j0 k a0 false))) else (camletlaw01_NumBack.j0 k a0 true))) else (camletlaw01_NumBack.j0 k a0 true))))
theorem camletlaw01_NumBack.mono_l : ∀ k, (∀ y0 y1, LeO (camletlaw01_NumBack.j0 k y0 y1) (camletlaw01_NumBack.j0 (k + 1) y0 y1))
  | 0 => fun _ _ r h => by simp [camletlaw01_NumBack.j0] at h
  | k + 1 => by
    have ih0 := camletlaw01_NumBack.mono_l k
    · intro y0 y1
      unfold camletlaw01_NumBack.j0
      repeat' first
      | (with_reducible exact ih0 _ _)
      | (with_reducible exact LeO.refl _)
      | (with_reducible exact LeO.none _)
      | (with_reducible refine LeO.ite ?_ ?_)
      | (with_reducible refine LeO.bind ?_ (fun _ => ?_))
      | exact ih0 _ _
      | exact LeO.none _
      | refine LeO.ite ?_ ?_
      | refine LeO.bind ?_ (fun _ => ?_)
theorem camletlaw01_NumBack.mono : ∀ a0 a1 k, LeO (camletlaw01_NumBack.f k a0 a1) (camletlaw01_NumBack.f (k + 1) a0 a1) := by
  intro a0 a1 k
  have ih0 := camletlaw01_NumBack.mono_l k
  unfold camletlaw01_NumBack.f
  repeat' first
      | (with_reducible exact ih0 _ _)
      | (with_reducible exact LeO.refl _)
      | (with_reducible exact LeO.none _)
      | (with_reducible refine LeO.ite ?_ ?_)
      | (with_reducible refine LeO.bind ?_ (fun _ => ?_))
      | exact ih0 _ _
      | exact LeO.none _
      | refine LeO.ite ?_ ?_
      | refine LeO.bind ?_ (fun _ => ?_)
set_option maxHeartbeats 8000000 in
set_option maxRecDepth 100000 in
theorem camletlaw01_NumBack.calls (k : Nat) (a0 : Int) (a1 : Int) (r : Bool) (w : World) (hG : Laid w) (h : camletlaw01_NumBack.f k a0 a1 = some r) :
    Calls Tryd.prog 4 #[.int .i64 a0, .int .u32 a1] w fun e w' => e = .returned (.bool r) ∧ Below w.heap.size w w' := by
  have HG := Aside0.mk hG
  clear hG
  have HB := Aside0.mk (Below.refl w.heap.size w)
  have H : ((num_Box.f a0).bind fun t120 => ((num_Unbox.f t120).bind fun t121 => ((num_Wrap.f a0).bind fun t122 => (if t121 = t122 then ((num_IsInt.f t120).bind fun t123 => (if t123 = true then ((num_IsInt.f a1).bind fun t124 => (if t124 = true then ((num_Unbox.f a1).bind fun t125 => ((num_Box.f t125).bind fun t126 => (camletlaw01_NumBack.j0 k a0 (t126 != a1)))) else (camletlaw01_NumBack.j0 k a0 false))) else (camletlaw01_NumBack.j0 k a0 true))) else (camletlaw01_NumBack.j0 k a0 true))))) = some r := h
  clear h
  have HC3 := Aside0.mk H
  clear H
  go_enter Tryd.func4, Tryd.ntmps4
  go_upto_region 1 with (fail)
  go_cut [29] (fun v29 wc => ∃ (kq : Nat) (x29_2 : Bool), v29 = .bool x29_2 ∧ Aside0 (camletlaw01_NumBack.j0 kq a0 x29_2 = some r) ∧ Aside0 (kq ≤ k) ∧ Aside0 (Below w.heap.size w wc))
  case first =>
    have H := HC3.out
    clear HC3
    replace H := Option.bind_eq_some_iff.mp H
    obtain ⟨t120, A40, H⟩ := H
    replace H : ((num_Unbox.f t120).bind fun t121 => ((num_Wrap.f a0).bind fun t122 => (if t121 = t122 then ((num_IsInt.f t120).bind fun t123 => (if t123 = true then ((num_IsInt.f a1).bind fun t124 => (if t124 = true then ((num_Unbox.f a1).bind fun t125 => ((num_Box.f t125).bind fun t126 => (camletlaw01_NumBack.j0 k a0 (t126 != a1)))) else (camletlaw01_NumBack.j0 k a0 false))) else (camletlaw01_NumBack.j0 k a0 true))) else (camletlaw01_NumBack.j0 k a0 true)))) = some r := H
    have A4 := Aside0.mk A40
    clear A40
    replace H := Option.bind_eq_some_iff.mp H
    obtain ⟨t121, A50, H⟩ := H
    replace H : ((num_Wrap.f a0).bind fun t122 => (if t121 = t122 then ((num_IsInt.f t120).bind fun t123 => (if t123 = true then ((num_IsInt.f a1).bind fun t124 => (if t124 = true then ((num_Unbox.f a1).bind fun t125 => ((num_Box.f t125).bind fun t126 => (camletlaw01_NumBack.j0 k a0 (t126 != a1)))) else (camletlaw01_NumBack.j0 k a0 false))) else (camletlaw01_NumBack.j0 k a0 true))) else (camletlaw01_NumBack.j0 k a0 true))) = some r := H
    have A5 := Aside0.mk A50
    clear A50
    replace H := Option.bind_eq_some_iff.mp H
    obtain ⟨t122, A60, H⟩ := H
    replace H : (if t121 = t122 then ((num_IsInt.f t120).bind fun t123 => (if t123 = true then ((num_IsInt.f a1).bind fun t124 => (if t124 = true then ((num_Unbox.f a1).bind fun t125 => ((num_Box.f t125).bind fun t126 => (camletlaw01_NumBack.j0 k a0 (t126 != a1)))) else (camletlaw01_NumBack.j0 k a0 false))) else (camletlaw01_NumBack.j0 k a0 true))) else (camletlaw01_NumBack.j0 k a0 true)) = some r := H
    have A6 := Aside0.mk A60
    clear A60
    by_cases c7 : t121 = t122
    · rw [if_pos c7] at H
      have c7b0 : (t121 == t122) = true := beq_iff_eq.mpr c7
      have c7b1 : (t121 != t122) = false := bne_eq_false_iff_eq.mpr c7
      clear c7
      (first | rw [c7b0] | (simp only [i64_w, i32_w]; rw [c7b0]) | skip)
      replace H := Option.bind_eq_some_iff.mp H
      obtain ⟨t123, A80, H⟩ := H
      replace H : (if t123 = true then ((num_IsInt.f a1).bind fun t124 => (if t124 = true then ((num_Unbox.f a1).bind fun t125 => ((num_Box.f t125).bind fun t126 => (camletlaw01_NumBack.j0 k a0 (t126 != a1)))) else (camletlaw01_NumBack.j0 k a0 false))) else (camletlaw01_NumBack.j0 k a0 true)) = some r := H
      have A8 := Aside0.mk A80
      clear A80
      by_cases c9 : t123 = true
      · subst c9
        have H1 : ((num_IsInt.f a1).bind fun t124 => (if t124 = true then ((num_Unbox.f a1).bind fun t125 => ((num_Box.f t125).bind fun t126 => (camletlaw01_NumBack.j0 k a0 (t126 != a1)))) else (camletlaw01_NumBack.j0 k a0 false))) = some r := by rw [if_pos rfl] at H; exact H
        clear H
        have H := H1
        clear H1
        replace H := Option.bind_eq_some_iff.mp H
        obtain ⟨t124, A100, H⟩ := H
        replace H : (if t124 = true then ((num_Unbox.f a1).bind fun t125 => ((num_Box.f t125).bind fun t126 => (camletlaw01_NumBack.j0 k a0 (t126 != a1)))) else (camletlaw01_NumBack.j0 k a0 false)) = some r := H
        have A10 := Aside0.mk A100
        clear A100
        by_cases c11 : t124 = true
        · subst c11
          have H1 : ((num_Unbox.f a1).bind fun t125 => ((num_Box.f t125).bind fun t126 => (camletlaw01_NumBack.j0 k a0 (t126 != a1)))) = some r := by rw [if_pos rfl] at H; exact H
          clear H
          have H := H1
          clear H1
          replace H := Option.bind_eq_some_iff.mp H
          obtain ⟨t125, A120, H⟩ := H
          replace H : ((num_Box.f t125).bind fun t126 => (camletlaw01_NumBack.j0 k a0 (t126 != a1))) = some r := H
          have A12 := Aside0.mk A120
          clear A120
          replace H := Option.bind_eq_some_iff.mp H
          obtain ⟨t126, A130, H⟩ := H
          replace H : (camletlaw01_NumBack.j0 k a0 (t126 != a1)) = some r := H
          have A13 := Aside0.mk A130
          clear A130
          have H' := Aside0.mk H
          clear H
          go_wp2_with (first | (go_at_call 11; (with_reducible refine (num_Box.calls a0 t120 _ A4.out).mono ?_); rintro e w' ⟨rfl, ⟨nd, rfl⟩⟩) | (go_at_call 10; (with_reducible refine (num_Unbox.calls t120 t121 _ A5.out).mono ?_); rintro e w' ⟨rfl, ⟨nd, rfl⟩⟩) | (go_at_call 12; (with_reducible refine (num_Wrap.calls a0 t122 _ A6.out).mono ?_); rintro e w' ⟨rfl, ⟨nd, rfl⟩⟩) | (go_at_call 13; (with_reducible refine (num_IsInt.calls t120 true _ A8.out).mono ?_); rintro e w' ⟨rfl, ⟨nd, rfl⟩⟩) | (go_at_call 13; (with_reducible refine (num_IsInt.calls a1 true _ A10.out).mono ?_); rintro e w' ⟨rfl, ⟨nd, rfl⟩⟩) | (go_at_call 10; (with_reducible refine (num_Unbox.calls a1 t125 _ A12.out).mono ?_); rintro e w' ⟨rfl, ⟨nd, rfl⟩⟩) | (go_at_call 11; (with_reducible refine (num_Box.calls t125 t126 _ A13.out).mono ?_); rintro e w' ⟨rfl, ⟨nd, rfl⟩⟩))
          go_meet
          case rel => exact ⟨_, ((t126 != a1)), (by first | rfl | (simp; done) | (simp [*]; done)), H', ⟨by first | omega | exact Nat.le_refl _⟩, ⟨by repeat (first | (with_reducible first | exact HB.out | apply below_alloc | apply pw_below_drewN | apply below_drew1) | exact HB.out)⟩⟩
        · replace c11 := Bool.eq_false_iff.mpr c11
          subst c11
          have H1 : (camletlaw01_NumBack.j0 k a0 false) = some r := by rw [if_neg (show ¬ (false = true) by decide)] at H; exact H
          clear H
          have H := H1
          clear H1
          have H' := Aside0.mk H
          clear H
          go_wp2_with (first | (go_at_call 11; (with_reducible refine (num_Box.calls a0 t120 _ A4.out).mono ?_); rintro e w' ⟨rfl, ⟨nd, rfl⟩⟩) | (go_at_call 10; (with_reducible refine (num_Unbox.calls t120 t121 _ A5.out).mono ?_); rintro e w' ⟨rfl, ⟨nd, rfl⟩⟩) | (go_at_call 12; (with_reducible refine (num_Wrap.calls a0 t122 _ A6.out).mono ?_); rintro e w' ⟨rfl, ⟨nd, rfl⟩⟩) | (go_at_call 13; (with_reducible refine (num_IsInt.calls t120 true _ A8.out).mono ?_); rintro e w' ⟨rfl, ⟨nd, rfl⟩⟩) | (go_at_call 13; (with_reducible refine (num_IsInt.calls a1 false _ A10.out).mono ?_); rintro e w' ⟨rfl, ⟨nd, rfl⟩⟩))
          go_meet
          case rel => exact ⟨_, (false), (by first | rfl | (simp; done) | (simp [*]; done)), H', ⟨by first | omega | exact Nat.le_refl _⟩, ⟨by repeat (first | (with_reducible first | exact HB.out | apply below_alloc | apply pw_below_drewN | apply below_drew1) | exact HB.out)⟩⟩
      · replace c9 := Bool.eq_false_iff.mpr c9
        subst c9
        have H1 : (camletlaw01_NumBack.j0 k a0 true) = some r := by rw [if_neg (show ¬ (false = true) by decide)] at H; exact H
        clear H
        have H := H1
        clear H1
        have H' := Aside0.mk H
        clear H
        go_wp2_with (first | (go_at_call 11; (with_reducible refine (num_Box.calls a0 t120 _ A4.out).mono ?_); rintro e w' ⟨rfl, ⟨nd, rfl⟩⟩) | (go_at_call 10; (with_reducible refine (num_Unbox.calls t120 t121 _ A5.out).mono ?_); rintro e w' ⟨rfl, ⟨nd, rfl⟩⟩) | (go_at_call 12; (with_reducible refine (num_Wrap.calls a0 t122 _ A6.out).mono ?_); rintro e w' ⟨rfl, ⟨nd, rfl⟩⟩) | (go_at_call 13; (with_reducible refine (num_IsInt.calls t120 false _ A8.out).mono ?_); rintro e w' ⟨rfl, ⟨nd, rfl⟩⟩))
        go_meet
        case rel => exact ⟨_, (true), (by first | rfl | (simp; done) | (simp [*]; done)), H', ⟨by first | omega | exact Nat.le_refl _⟩, ⟨by repeat (first | (with_reducible first | exact HB.out | apply below_alloc | apply pw_below_drewN | apply below_drew1) | exact HB.out)⟩⟩
    · rw [if_neg c7] at H
      have c7b0 : (t121 == t122) = false := beq_eq_false_iff_ne.mpr c7
      have c7b1 : (t121 != t122) = true := bne_iff_ne.mpr c7
      (first | rw [c7b0] | (simp only [i64_w, i32_w]; rw [c7b0]) | skip)
      have H' := Aside0.mk H
      clear H
      go_wp2_with (first | (go_at_call 11; (with_reducible refine (num_Box.calls a0 t120 _ A4.out).mono ?_); rintro e w' ⟨rfl, ⟨nd, rfl⟩⟩) | (go_at_call 10; (with_reducible refine (num_Unbox.calls t120 t121 _ A5.out).mono ?_); rintro e w' ⟨rfl, ⟨nd, rfl⟩⟩) | (go_at_call 12; (with_reducible refine (num_Wrap.calls a0 t122 _ A6.out).mono ?_); rintro e w' ⟨rfl, ⟨nd, rfl⟩⟩))
      go_meet
      case rel => exact ⟨_, (true), (by first | rfl | (simp; done) | (simp [*]; done)), H', ⟨by first | omega | exact Nat.le_refl _⟩, ⟨by repeat (first | (with_reducible first | exact HB.out | apply below_alloc | apply pw_below_drewN | apply below_drew1) | exact HB.out)⟩⟩
  case rest =>
    clear HC3
    try clear c1
    try clear p2
    try clear c4
    try clear c7
    try clear c7b0
    try clear c7b1
    try clear c9
    try clear c11
    obtain ⟨kq, x29_2, rfl, HA, HJ2, HB⟩ := hcut
    cases kq with
    | zero => exact absurd HA.out (by simp [camletlaw01_NumBack.j0])
    | succ kj2 =>
      have H := HA.out
      clear HA
      simp only [camletlaw01_NumBack.j0] at H
      by_cases c14 : x29_2 = true
      · subst c14
        have H1 : (some false) = some r := by rw [if_pos rfl] at H; exact H
        clear H
        have H := H1
        clear H1
        obtain rfl := Option.some.inj H
        go_wp2
        go_ret
        exact ⟨by first | rfl | (simp [errW_none, errW_some] <;> rfl) | (simp [*, errW_none, errW_some] <;> rfl), by repeat (first | (with_reducible first | exact HB.out | apply below_alloc | apply pw_below_drewN | apply below_drew1) | exact HB.out)⟩
      · replace c14 := Bool.eq_false_iff.mpr c14
        subst c14
        have H1 : (if a0 < 0 then ((num_Show.f a0).bind fun t127 => (if (t127.size : Int) > 1 then ((num_Show.f a0).bind fun t128 => (if 0 < (t128.size : Int) then (if (bt t128 0) = 45 then ((camletlaw01_knows.f).bind fun t129 => (some t129)) else (some false)) else (none))) else (some false))) else ((num_Show.f a0).bind fun t130 => ((num_Read.f t130 a0).bind fun bt131 => (if bt131.1 = a0 then (if bt131.2 = 0 then ((camletlaw01_knows.f).bind fun t133 => (some t133)) else (some false)) else (some false))))) = some r := by rw [if_neg (show ¬ (false = true) by decide)] at H; exact H
        clear H
        have H := H1
        clear H1
        by_cases c15 : a0 < 0
        · rw [if_pos c15] at H
          have c15b0 : decide (a0 < 0) = true := decide_eq_true c15
          clear c15
          replace H := Option.bind_eq_some_iff.mp H
          obtain ⟨t127, A160, H⟩ := H
          replace H : (if (t127.size : Int) > 1 then ((num_Show.f a0).bind fun t128 => (if 0 < (t128.size : Int) then (if (bt t128 0) = 45 then ((camletlaw01_knows.f).bind fun t129 => (some t129)) else (some false)) else (none))) else (some false)) = some r := H
          have A16 := Aside0.mk A160
          clear A160
          by_cases c17 : (t127.size : Int) > 1
          · rw [if_pos c17] at H
            have c17b0 : decide (1 < (t127.size : Int)) = true := decide_eq_true c17
            have c17b1 : decide (1 < t127.size) = true := decide_eq_true (by omega)
            clear c17
            replace H := Option.bind_eq_some_iff.mp H
            obtain ⟨t128, A180, H⟩ := H
            replace H : (if 0 < (t128.size : Int) then (if (bt t128 0) = 45 then ((camletlaw01_knows.f).bind fun t129 => (some t129)) else (some false)) else (none)) = some r := H
            have A18 := Aside0.mk A180
            clear A180
            have e_ : t128 = t127 := Option.some.inj (A18.out.symm.trans A16.out)
            subst e_
            by_cases c19 : 0 < (t128.size : Int)
            · rw [if_pos c19] at H
              have c19b0 : decide (0 < (t128.size : Int)) = true := decide_eq_true c19
              have c19b1 : decide (0 < t128.size) = true := decide_eq_true (by omega)
              clear c19
              by_cases c21 : (bt t128 0) = 45
              · rw [if_pos c21] at H
                have c21b0 : ((bt t128 0) == 45) = true := beq_iff_eq.mpr c21
                have c21b1 : ((bt t128 0) != 45) = false := bne_eq_false_iff_eq.mpr c21
                clear c21
                replace H := Option.bind_eq_some_iff.mp H
                obtain ⟨t129, A220, H⟩ := H
                replace H : (some t129) = some r := H
                have A22 := Aside0.mk A220
                clear A220
                obtain rfl := Option.some.inj H
                go_wp2_with (first | (go_at_call 7; (with_reducible refine (num_Show.calls a0 t127 _ ?side1 A16.out).mono ?_); (case side1 => exact Laid.mono HG.out (by repeat (first | (with_reducible first | exact HB.out | apply below_alloc | apply pw_below_drewN | apply below_drew1) | exact HB.out))); rintro e w23 ⟨rfl, hb⟩; have n0_ := Aside0.mk (below_step (by repeat (first | (with_reducible first | exact HB.out | apply below_alloc | apply pw_below_drewN | apply below_drew1) | exact HB.out)) hb); clear HB; have HB := n0_; clear n0_; (try clear hb); (try clear hb2); (try clear hk); (try clear hi)) | (go_at_call 7; (with_reducible refine (num_Show.calls a0 t128 _ ?side1 A18.out).mono ?_); (case side1 => exact Laid.mono HG.out (by repeat (first | (with_reducible first | exact HB.out | apply below_alloc | apply pw_below_drewN | apply below_drew1) | exact HB.out))); rintro e w24 ⟨rfl, hb⟩; have n0_ := Aside0.mk (below_step (by repeat (first | (with_reducible first | exact HB.out | apply below_alloc | apply pw_below_drewN | apply below_drew1) | exact HB.out)) hb); clear HB; have HB := n0_; clear n0_; (try clear hb); (try clear hb2); (try clear hk); (try clear hi); have p20 : 0 ≤ (0 : Int) := (by omega); have q20 : 0 < t128.size := (by have : (0 : Int) < (t128.size : Int) := of_decide_eq_true (by first | (with_reducible assumption) | assumption); omega); have hx20 : ∀ h : 0 < t128.size, ((t128[0]'h).toNat : Int) = bt t128 0 := bt_at t128 0; clear p20; have qi20 : (0 < (t128.size : Int)) = True := eq_true (of_decide_eq_true (by first | (with_reducible assumption) | assumption)); replace q20 := eq_true q20) | (go_at_call 9; (with_reducible refine (camletlaw01_knows.calls  t129 _ A22.out).mono ?_); rintro e w25 ⟨rfl, hb⟩; have n0_ := Aside0.mk (below_step (by repeat (first | (with_reducible first | exact HB.out | apply below_alloc | apply pw_below_drewN | apply below_drew1) | exact HB.out)) hb); clear HB; have HB := n0_; clear n0_; (try clear hb); (try clear hb2); (try clear hk); (try clear hi)))
                go_ret
                exact ⟨by first | rfl | (simp [errW_none, errW_some] <;> rfl) | (simp [*, errW_none, errW_some] <;> rfl), by repeat (first | (with_reducible first | exact HB.out | apply below_alloc | apply pw_below_drewN | apply below_drew1) | exact HB.out)⟩
              · rw [if_neg c21] at H
                have c21b0 : ((bt t128 0) == 45) = false := beq_eq_false_iff_ne.mpr c21
                have c21b1 : ((bt t128 0) != 45) = true := bne_iff_ne.mpr c21
                obtain rfl := Option.some.inj H
                go_wp2_with (first | (go_at_call 7; (with_reducible refine (num_Show.calls a0 t127 _ ?side1 A16.out).mono ?_); (case side1 => exact Laid.mono HG.out (by repeat (first | (with_reducible first | exact HB.out | apply below_alloc | apply pw_below_drewN | apply below_drew1) | exact HB.out))); rintro e w26 ⟨rfl, hb⟩; have n0_ := Aside0.mk (below_step (by repeat (first | (with_reducible first | exact HB.out | apply below_alloc | apply pw_below_drewN | apply below_drew1) | exact HB.out)) hb); clear HB; have HB := n0_; clear n0_; (try clear hb); (try clear hb2); (try clear hk); (try clear hi)) | (go_at_call 7; (with_reducible refine (num_Show.calls a0 t128 _ ?side1 A18.out).mono ?_); (case side1 => exact Laid.mono HG.out (by repeat (first | (with_reducible first | exact HB.out | apply below_alloc | apply pw_below_drewN | apply below_drew1) | exact HB.out))); rintro e w27 ⟨rfl, hb⟩; have n0_ := Aside0.mk (below_step (by repeat (first | (with_reducible first | exact HB.out | apply below_alloc | apply pw_below_drewN | apply below_drew1) | exact HB.out)) hb); clear HB; have HB := n0_; clear n0_; (try clear hb); (try clear hb2); (try clear hk); (try clear hi); have p20 : 0 ≤ (0 : Int) := (by omega); have q20 : 0 < t128.size := (by have : (0 : Int) < (t128.size : Int) := of_decide_eq_true (by first | (with_reducible assumption) | assumption); omega); have hx20 : ∀ h : 0 < t128.size, ((t128[0]'h).toNat : Int) = bt t128 0 := bt_at t128 0; clear p20; have qi20 : (0 < (t128.size : Int)) = True := eq_true (of_decide_eq_true (by first | (with_reducible assumption) | assumption)); replace q20 := eq_true q20))
                go_ret
                exact ⟨by first | rfl | (simp [errW_none, errW_some] <;> rfl) | (simp [*, errW_none, errW_some] <;> rfl), by repeat (first | (with_reducible first | exact HB.out | apply below_alloc | apply pw_below_drewN | apply below_drew1) | exact HB.out)⟩
            · rw [if_neg c19] at H
              exact absurd H (by simp)
          · rw [if_neg c17] at H
            have c17b0 : decide (1 < (t127.size : Int)) = false := decide_eq_false c17
            have c17b1 : decide (1 < t127.size) = false := decide_eq_false (by omega)
            clear c17
            obtain rfl := Option.some.inj H
            go_wp2_with (first | (go_at_call 7; (with_reducible refine (num_Show.calls a0 t127 _ ?side1 A16.out).mono ?_); (case side1 => exact Laid.mono HG.out (by repeat (first | (with_reducible first | exact HB.out | apply below_alloc | apply pw_below_drewN | apply below_drew1) | exact HB.out))); rintro e w28 ⟨rfl, hb⟩; have n0_ := Aside0.mk (below_step (by repeat (first | (with_reducible first | exact HB.out | apply below_alloc | apply pw_below_drewN | apply below_drew1) | exact HB.out)) hb); clear HB; have HB := n0_; clear n0_; (try clear hb); (try clear hb2); (try clear hk); (try clear hi)))
            go_ret
            exact ⟨by first | rfl | (simp [errW_none, errW_some] <;> rfl) | (simp [*, errW_none, errW_some] <;> rfl), by repeat (first | (with_reducible first | exact HB.out | apply below_alloc | apply pw_below_drewN | apply below_drew1) | exact HB.out)⟩
        · rw [if_neg c15] at H
          have c15b0 : decide (a0 < 0) = false := decide_eq_false c15
          clear c15
          replace H := Option.bind_eq_some_iff.mp H
          obtain ⟨t130, A290, H⟩ := H
          replace H : ((num_Read.f t130 a0).bind fun bt131 => (if bt131.1 = a0 then (if bt131.2 = 0 then ((camletlaw01_knows.f).bind fun t133 => (some t133)) else (some false)) else (some false))) = some r := H
          have A29 := Aside0.mk A290
          clear A290
          replace H := Option.bind_eq_some_iff.mp H
          obtain ⟨⟨t131, t132⟩, A300, H⟩ := H
          replace H : (if t131 = a0 then (if t132 = 0 then ((camletlaw01_knows.f).bind fun t133 => (some t133)) else (some false)) else (some false)) = some r := H
          have A30 := Aside0.mk A300
          clear A300
          by_cases c31 : t131 = a0
          · rw [if_pos c31] at H
            have c31b0 : (t131 == a0) = true := beq_iff_eq.mpr c31
            have c31b1 : (t131 != a0) = false := bne_eq_false_iff_eq.mpr c31
            clear c31
            by_cases c32 : t132 = 0
            · rw [if_pos c32] at H
              have c32b0 : (t132 == 0) = true := beq_iff_eq.mpr c32
              have c32b1 : (t132 != 0) = false := bne_eq_false_iff_eq.mpr c32
              clear c32
              replace H := Option.bind_eq_some_iff.mp H
              obtain ⟨t133, A330, H⟩ := H
              replace H : (some t133) = some r := H
              have A33 := Aside0.mk A330
              clear A330
              obtain rfl := Option.some.inj H
              go_wp2_with (first | (go_at_call 7; (with_reducible refine (num_Show.calls a0 t130 _ ?side1 A29.out).mono ?_); (case side1 => exact Laid.mono HG.out (by repeat (first | (with_reducible first | exact HB.out | apply below_alloc | apply pw_below_drewN | apply below_drew1) | exact HB.out))); rintro e w34 ⟨rfl, hb⟩; have n0_ := Aside0.mk (below_step (by repeat (first | (with_reducible first | exact HB.out | apply below_alloc | apply pw_below_drewN | apply below_drew1) | exact HB.out)) hb); clear HB; have HB := n0_; clear n0_; (try clear hb); (try clear hb2); (try clear hk); (try clear hi)) | (go_at_call 5; (with_reducible refine (num_Read.calls t130 a0 t131 t132 _ ?side1 A30.out).mono ?_); (case side1 => exact Laid.mono HG.out (by repeat (first | (with_reducible first | exact HB.out | apply below_alloc | apply pw_below_drewN | apply below_drew1) | exact HB.out))); rintro e w35 ⟨rfl, hb⟩; have n0_ := Aside0.mk (below_step (by repeat (first | (with_reducible first | exact HB.out | apply below_alloc | apply pw_below_drewN | apply below_drew1) | exact HB.out)) hb); clear HB; have HB := n0_; clear n0_; (try clear hb); (try clear hb2); (try clear hk); (try clear hi)) | (go_at_call 9; (with_reducible refine (camletlaw01_knows.calls  t133 _ A33.out).mono ?_); rintro e w36 ⟨rfl, hb⟩; have n0_ := Aside0.mk (below_step (by repeat (first | (with_reducible first | exact HB.out | apply below_alloc | apply pw_below_drewN | apply below_drew1) | exact HB.out)) hb); clear HB; have HB := n0_; clear n0_; (try clear hb); (try clear hb2); (try clear hk); (try clear hi)))
              go_ret
              exact ⟨by first | rfl | (simp [errW_none, errW_some] <;> rfl) | (simp [*, errW_none, errW_some] <;> rfl), by repeat (first | (with_reducible first | exact HB.out | apply below_alloc | apply pw_below_drewN | apply below_drew1) | exact HB.out)⟩
            · rw [if_neg c32] at H
              have c32b0 : (t132 == 0) = false := beq_eq_false_iff_ne.mpr c32
              have c32b1 : (t132 != 0) = true := bne_iff_ne.mpr c32
              obtain rfl := Option.some.inj H
              go_wp2_with (first | (go_at_call 7; (with_reducible refine (num_Show.calls a0 t130 _ ?side1 A29.out).mono ?_); (case side1 => exact Laid.mono HG.out (by repeat (first | (with_reducible first | exact HB.out | apply below_alloc | apply pw_below_drewN | apply below_drew1) | exact HB.out))); rintro e w37 ⟨rfl, hb⟩; have n0_ := Aside0.mk (below_step (by repeat (first | (with_reducible first | exact HB.out | apply below_alloc | apply pw_below_drewN | apply below_drew1) | exact HB.out)) hb); clear HB; have HB := n0_; clear n0_; (try clear hb); (try clear hb2); (try clear hk); (try clear hi)) | (go_at_call 5; (with_reducible refine (num_Read.calls t130 a0 t131 t132 _ ?side1 A30.out).mono ?_); (case side1 => exact Laid.mono HG.out (by repeat (first | (with_reducible first | exact HB.out | apply below_alloc | apply pw_below_drewN | apply below_drew1) | exact HB.out))); rintro e w38 ⟨rfl, hb⟩; have n0_ := Aside0.mk (below_step (by repeat (first | (with_reducible first | exact HB.out | apply below_alloc | apply pw_below_drewN | apply below_drew1) | exact HB.out)) hb); clear HB; have HB := n0_; clear n0_; (try clear hb); (try clear hb2); (try clear hk); (try clear hi)))
              go_ret
              exact ⟨by first | rfl | (simp [errW_none, errW_some] <;> rfl) | (simp [*, errW_none, errW_some] <;> rfl), by repeat (first | (with_reducible first | exact HB.out | apply below_alloc | apply pw_below_drewN | apply below_drew1) | exact HB.out)⟩
          · rw [if_neg c31] at H
            have c31b0 : (t131 == a0) = false := beq_eq_false_iff_ne.mpr c31
            have c31b1 : (t131 != a0) = true := bne_iff_ne.mpr c31
            obtain rfl := Option.some.inj H
            go_wp2_with (first | (go_at_call 7; (with_reducible refine (num_Show.calls a0 t130 _ ?side1 A29.out).mono ?_); (case side1 => exact Laid.mono HG.out (by repeat (first | (with_reducible first | exact HB.out | apply below_alloc | apply pw_below_drewN | apply below_drew1) | exact HB.out))); rintro e w39 ⟨rfl, hb⟩; have n0_ := Aside0.mk (below_step (by repeat (first | (with_reducible first | exact HB.out | apply below_alloc | apply pw_below_drewN | apply below_drew1) | exact HB.out)) hb); clear HB; have HB := n0_; clear n0_; (try clear hb); (try clear hb2); (try clear hk); (try clear hi)) | (go_at_call 5; (with_reducible refine (num_Read.calls t130 a0 t131 t132 _ ?side1 A30.out).mono ?_); (case side1 => exact Laid.mono HG.out (by repeat (first | (with_reducible first | exact HB.out | apply below_alloc | apply pw_below_drewN | apply below_drew1) | exact HB.out))); rintro e w40 ⟨rfl, hb⟩; have n0_ := Aside0.mk (below_step (by repeat (first | (with_reducible first | exact HB.out | apply below_alloc | apply pw_below_drewN | apply below_drew1) | exact HB.out)) hb); clear HB; have HB := n0_; clear n0_; (try clear hb); (try clear hb2); (try clear hk); (try clear hi)))
            go_ret
            exact ⟨by first | rfl | (simp [errW_none, errW_some] <;> rfl) | (simp [*, errW_none, errW_some] <;> rfl), by repeat (first | (with_reducible first | exact HB.out | apply below_alloc | apply pw_below_drewN | apply below_drew1) | exact HB.out)⟩

end Go.Proofs.YtgnfobnlipjedaaDoor.Q

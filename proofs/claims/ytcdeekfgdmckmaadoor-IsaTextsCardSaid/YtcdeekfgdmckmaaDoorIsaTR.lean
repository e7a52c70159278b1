/- Several texts in one: The reference's text of an instruction is isa.Show's. The reference's reading of a text is isa.Read's. -/
import Derived.Test.YtcdeekfgdmckmaaDoorQx0
import Derived.Test.YtcdeekfgdmckmaaDoorQx3
import Derived.Test.YtcdeekfgdmckmaaDoorQx5
import Derived.Test.YtcdeekfgdmckmaaDoorQx7
import Derived.Test.YtcdeekfgdmckmaaDoorEvW
import Derived.Test.YtcdeekfgdmckmaaDoorHisaForms
import Derived.Test.YtcdeekfgdmckmaaDoorHisaOf
import Derived.Test.YtcdeekfgdmckmaaDoorHisaRd
import Derived.Test.YtcdeekfgdmckmaaDoorHisaRight
import Derived.Test.YtcdeekfgdmckmaaDoorHisaShow
import Derived.Test.YtcdeekfgdmckmaaDoorHisaThings
import Derived.Test.YtcdeekfgdmckmaaDoorIsaRd
import Derived.Test.YtcdeekfgdmckmaaDoorIsaReadP
import Derived.Test.YtcdeekfgdmckmaaDoorIsaRef
import Derived.Test.YtcdeekfgdmckmaaDoorReadPlain
import Derived.Test.YtcdeekfgdmckmaaDoorShowPlain
import Derived.Lib.ItoaLen
import Derived.Test.YtcdeekfgdmckmaaDoorQx8
import Derived.Test.YtcdeekfgdmckmaaDoorQx9
import Derived.Test.YtcdeekfgdmckmaaDoorHnumRead
--@needs XIsaReadP
--@needs XIsaRef
--@needs XShowPlain
--@needs XEvW
--@needs XHisaRead
namespace Go.Proofs.YtcdeekfgdmckmaaDoor.Q
open Go.RowKit Go.Proofs.YtcdeekfgdmckmaaDoorW.PrintWords Go.Proofs.YtcdeekfgdmckmaaDoorW.PrintLast Go.Proofs.YtcdeekfgdmckmaaDoorW.PrintMore
attribute [local go_sem] max2_int min2_int max_two min_two max_three min_three max_four min_four   -- for this text's walks alone
set_option linter.unusedVariables false
set_option linter.unusedSimpArgs false

theorem refName_lit : ∀ i : Fin 25, camletref39_name.f (i.val : Int) = some (isaForm (i.val : Int)).1 := by decide +kernel
theorem refName (k : Int) : camletref39_name.f k = some (isaForm k).1 := by
  by_cases h : 0 ≤ k ∧ k < 25
  · have := refName_lit ⟨k.toNat, by omega⟩
    rwa [show ((⟨k.toNat, by omega⟩ : Fin 25).val : Int) = k from by show ((k.toNat : Nat) : Int) = k; omega] at this
  · unfold camletref39_name.f isaForm
    rw [if_neg h]
    simp only [Option.bind_some]
    by_cases h0 : k < 0
    · rw [if_pos h0]
    · rw [if_neg h0, if_pos (by simp; omega)]
/-- what an instruction has, by letters -/
def refHas (k N : Int) : ByteArray := (camletref39_Has.f 10 k 0 0 0 N).getD ⟨#[]⟩
theorem has_j3 (m : Nat) (N : Int) (b : Bool) : ∃ r, camletref39_Has.j3 (m + 1) N b = some r ∧ r.size ≤ 3 := by
  rw [camletref39_Has.j3]
  repeat' split
  all_goals exact ⟨_, rfl, by decide⟩
theorem has_j2 (m : Nat) (a : Int) (b : Bool) (k D A B N : Int) : ∃ r, camletref39_Has.j2 (m + 2) a b k D A B N = some r ∧ r.size ≤ 3 := by
  rw [camletref39_Has.j2]
  repeat' split
  all_goals first | exact ⟨_, rfl, by decide⟩ | exact has_j3 _ _ _
theorem has_j1 (m : Nat) (a : Int) (b : Bool) (k D A B N : Int) : ∃ r, camletref39_Has.j1 (m + 3) a b k D A B N = some r ∧ r.size ≤ 3 := by
  rw [camletref39_Has.j1]
  repeat' split
  all_goals first | exact ⟨_, rfl, by decide⟩ | exact has_j2 _ _ _ _ _ _ _ _
theorem has_j0 (m : Nat) (a : Int) (b : Bool) (k D A B N : Int) : ∃ r, camletref39_Has.j0 (m + 4) a b k D A B N = some r ∧ r.size ≤ 3 := by
  rw [camletref39_Has.j0]
  repeat' split
  all_goals first | exact ⟨_, rfl, by decide⟩ | exact has_j1 _ _ _ _ _ _ _ _
theorem has_f (k D A B N : Int) : ∃ r, camletref39_Has.f 10 k D A B N = some r ∧ r.size ≤ 3 := by
  unfold camletref39_Has.f
  repeat' split
  all_goals exact has_j0 6 _ _ _ _ _ _ _
theorem refHas_any (n : Nat) (k D A B N : Int) : camletref39_Has.f (n + 10) k D A B N = some (refHas k N) := by
  have e : camletref39_Has.f (n + 10) k D A B N = camletref39_Has.f 10 k 0 0 0 N := by kernel_rfl
  obtain ⟨b, hb, _⟩ := has_f k 0 0 0 N
  rw [e]
  unfold refHas
  rw [hb]; rfl
theorem refHas_ev (k D A B N : Int) : Ev (fun n => camletref39_Has.f n k D A B N) (refHas k N) := ⟨10, fun n hn => by
  obtain ⟨m, rfl⟩ : ∃ m, n = m + 10 := ⟨n - 10, by omega⟩
  exact refHas_any m k D A B N⟩
def fieldVal (D A B N : Int) (c : UInt8) : Int := if c = 68 then D else if c = 65 then A else if c = 66 then B else N
theorem refField (k D A B N : Int) (c : UInt8) : camletref39_field.f k D A B N (c.toNat : Int) = some (fieldVal D A B N c) := by
  unfold camletref39_field.f fieldVal
  have e : ∀ d : UInt8, ((c.toNat : Int) = (d.toNat : Int)) → c = d := fun d h => UInt8.toNat.inj (by omega)
  by_cases h1 : c = 68
  · subst h1; rfl
  have nh1 : ¬ (c.toNat : Int) = 68 := fun h => h1 (e 68 h)
  rw [if_neg nh1, if_neg h1]
  by_cases h2 : c = 65
  · subst h2; rfl
  have nh2 : ¬ (c.toNat : Int) = 65 := fun h => h2 (e 65 h)
  rw [if_neg nh2, if_neg h2]
  by_cases h3 : c = 66
  · subst h3; rfl
  have nh3 : ¬ (c.toNat : Int) = 66 := fun h => h3 (e 66 h)
  rw [if_neg nh3, if_neg h3]
theorem has_things {k D A B N : Int} (hr : isaRight k D A B N = true) : (refHas k N).data.toList.map (fieldVal D A B N) = isaThings k D A B N := by
  obtain ⟨kk, rfl, hk⟩ := right_kind hr
  by_cases h24 : kk = 24
  · subst h24
    have hN : N = 1 ∨ N = 2 ∨ N = 3 ∨ N = 4 := by
      obtain ⟨_, h1, h2, _⟩ := right_parts hr
      have hlh : (isaOf ((24 : Nat) : Int) N).2.2 = (1, 4) := by unfold isaOf; split <;> rfl
      rw [hlh] at h1 h2
      dsimp only at h1 h2
      omega
    rcases hN with rfl | rfl | rfl | rfl <;> rfl
  · have h : kk = 0 ∨ kk = 1 ∨ kk = 2 ∨ kk = 3 ∨ kk = 4 ∨ kk = 5 ∨ kk = 6 ∨ kk = 7 ∨ kk = 8 ∨ kk = 9 ∨ kk = 10 ∨ kk = 11 ∨ kk = 12 ∨ kk = 13 ∨ kk = 14 ∨ kk = 15 ∨ kk = 16 ∨ kk = 17 ∨ kk = 18 ∨ kk = 19 ∨ kk = 20 ∨ kk = 21 ∨ kk = 22 ∨ kk = 23 := by omega
    rcases h with rfl | rfl | rfl | rfl | rfl | rfl | rfl | rfl | rfl | rfl | rfl | rfl | rfl | rfl | rfl | rfl | rfl | rfl | rfl | rfl | rfl | rfl | rfl | rfl <;> rfl
theorem refShow_l0 (T : ByteArray) (k D A B N : Int) (hv : ∀ c ∈ T.data.toList, -1048576 ≤ fieldVal D A B N c ∧ fieldVal D A B N c ≤ 1048575) (hT : T.size ≤ 10) (d : Nat) : ∀ (i : Nat) (acc : List UInt8), i + d = T.size → acc.length ≤ 100 + 30 * i →
    Ev (fun n => camletref39_Show.l0 n ⟨acc.toArray⟩ T (i : Int) k D A B N) ⟨(acc ++ showWords ((T.data.toList.drop i).map (fieldVal D A B N))).toArray⟩ := by
  induction d with
  | zero =>
    intro i acc hi hacc
    refine Ev.step (f := fun _ => some ⟨acc.toArray⟩) (fun n => ?_) ?_
    · rw [camletref39_Show.l0, if_neg (by omega)]
    · have e : T.data.toList.drop i = [] := List.drop_eq_nil_of_le (by rw [data_len]; omega)
      rw [e]
      simp only [List.map_nil, showWords, List.flatMap_nil, List.append_nil]
      exact Ev.now _
  | succ d ih =>
    intro i acc hi hacc
    have hlt : i < T.size := by omega
    have c1 : (i : Int) < (T.size : Int) := by omega
    have c2 : 0 ≤ (i : Int) := by omega
    have c3 : 1 + 21 ≤ 9223372036854775807 := by decide
    have hil100 : i ≤ 10 := by omega
    have hb := bt_data T i hlt
    have hl : i < T.data.toList.length := by rw [data_len]; exact hlt
    obtain ⟨c, hc⟩ : ∃ c, T.data.toList[i]'hl = c := ⟨_, rfl⟩
    rw [hc] at hb
    have hcm : c ∈ T.data.toList := hc ▸ List.getElem_mem hl
    have hcv := hv c hcm
    have hfd := refField k D A B N c
    have hsh := refshow (fieldVal D A B N c) (by omega) (by omega)
    have hil := Lib.itoa_length_le (fieldVal D A B N c) (by omega) (by omega)
    have hdr : T.data.toList.drop i = c :: T.data.toList.drop (i + 1) := by rw [List.drop_eq_getElem_cons hl, hc]
    have hih := ih (i + 1) (acc ++ 32 :: Lib.itoa (fieldVal D A B N c)) (by omega) (by simp; omega)
    rw [hdr]
    generalize hx : fieldVal D A B N c = x at *
    have k1 : 1 + (Lib.itoa x).length ≤ 9223372036854775807 := by omega
    have k2 : acc.length + (1 + (Lib.itoa x).length) ≤ 9223372036854775807 := by omega
    have ew : wrap64 ((i : Int) + 1) = ((i + 1 : Nat) : Int) := wr_i i T.size hlt (by omega)
    have e1 : (⟨#[32]⟩ : ByteArray) ++ ⟨(Lib.itoa x).toArray⟩ = ⟨(32 :: Lib.itoa x).toArray⟩ := by
      rw [show (⟨#[32]⟩ : ByteArray) = ⟨([32] : List UInt8).toArray⟩ from rfl, ba_app0]; rfl
    have e2 : (⟨acc.toArray⟩ : ByteArray) ++ ⟨(32 :: Lib.itoa x).toArray⟩ = ⟨(acc ++ 32 :: Lib.itoa x).toArray⟩ := ba_app0 _ _
    refine Ev.step (f := fun n => (camletref01_Show.f n x).bind fun t137 => (if 1 + t137.size ≤ 9223372036854775807 then (if (⟨acc.toArray⟩ : ByteArray).size + ((⟨#[32]⟩ : ByteArray) ++ t137).size ≤ 9223372036854775807 then (camletref39_Show.l0 n (⟨acc.toArray⟩ ++ ((⟨#[32]⟩ : ByteArray) ++ t137)) T (wrap64 ((i : Int) + 1)) k D A B N) else (none)) else (none))) (fun n => ?_) ?_
    · rw [camletref39_Show.l0, if_pos c1, if_pos c2, hb, hfd, Option.bind_some]
    · refine Ev.bind hsh (Ev.pos (by rw [ba_size0]; exact k1) (Ev.pos (by rw [e1, ba_size0, ba_size0, List.length_cons, Nat.add_comm _ 1]; exact k2) ?_))
      rw [e1, e2, ew]
      have e3 : acc ++ showWords ((c :: T.data.toList.drop (i + 1)).map (fieldVal D A B N)) = acc ++ 32 :: Lib.itoa x ++ showWords ((T.data.toList.drop (i + 1)).map (fieldVal D A B N)) := by
        rw [List.map_cons, hx]; simp [showWords]
      rw [e3]
      exact hih
theorem refHas_size (k N : Int) : (refHas k N).size ≤ 3 := by
  obtain ⟨b, hb, hs⟩ := has_f k 0 0 0 N
  unfold refHas
  rw [hb]; exact hs
theorem refShow_ev (k D A B N : Int) : Ev (fun n => camletref39_Show.f n k D A B N) ⟨(isaText k D A B N).toArray⟩ := by
  have hR : Ev (fun n => camletref39_Right.f n k D A B N) (isaRight k D A B N) := ⟨20, fun n hn => by
    obtain ⟨m, rfl⟩ : ∃ m, n = m + 20 := ⟨n - 20, by omega⟩
    exact refRight_eq m k D A B N⟩
  unfold isaText camletref39_Show.f
  refine Ev.bind hR ?_
  cases hr : isaRight k D A B N with
  | false =>
    rw [if_neg (by decide)]
    exact Ev.neg (by decide) (Ev.now _)
  | true =>
    rw [if_pos rfl]
    refine Ev.pos rfl (Ev.val (refName k) (Ev.bind (refHas_ev k D A B N) ?_))
    have ht := has_things hr
    have hsp := (things_span hr).1
    have hns := (of_span k N).2.2
    rw [of_name] at hns
    have hv : ∀ c ∈ (refHas k N).data.toList, -1048576 ≤ fieldVal D A B N c ∧ fieldVal D A B N c ≤ 1048575 := fun c hc => hsp _ (by rw [← ht]; exact List.mem_map_of_mem hc)
    have h0 := refShow_l0 (refHas k N) k D A B N hv (by have := refHas_size k N; omega) (refHas k N).size 0 (isaForm k).1.data.toList (by omega) (by rw [data_len]; omega)
    rw [List.drop_zero, ht] at h0
    unfold isaShow
    rw [of_name]
    have e : (⟨(isaForm k).1.data.toList.toArray⟩ : ByteArray) = (isaForm k).1 := by cases (isaForm k).1; simp
    rw [e] at h0
    exact h0
end Go.Proofs.YtcdeekfgdmckmaaDoor.Q

--@needs XIsaTextRef
--@needs XIsaReadP
--@needs XHisaRead
--@needs XEvW
namespace Go.Proofs.YtcdeekfgdmckmaaDoor.Q
open Go.RowKit Go.Proofs.YtcdeekfgdmckmaaDoorW.PrintWords Go.Proofs.YtcdeekfgdmckmaaDoorW.PrintLast Go.Proofs.YtcdeekfgdmckmaaDoorW.PrintMore
attribute [local go_sem] max2_int min2_int max_two min_two max_three min_three max_four min_four   -- for this text's walks alone
set_option linter.unusedVariables false
set_option linter.unusedSimpArgs false

theorem dec_len : ∀ (n u : Nat), 1 ≤ n → u < 10 ^ n → (Lib.decDigits u).length ≤ n
  | 0, u, h, _ => by omega
  | n + 1, u, _, h => by
    by_cases h10 : u < 10
    · rw [Lib.decDigits_one h10]; simp
    · rw [decDigits_step u h10, List.length_append]
      have hn : 1 ≤ n := by
        cases n with
        | zero => simp at h; omega
        | succ _ => omega
      have := dec_len n (u / 10) hn (by rw [Nat.pow_succ] at h; omega)
      simp; omega
theorem itoa_len8 {x : Int} (h : -1048576 ≤ x ∧ x ≤ 1048576) : (Lib.itoa x).length ≤ 8 := by
  rcases itoa_form x with ⟨u, rfl, e⟩ | ⟨u, _, rfl, e⟩
  · rw [e]
    have := dec_len 7 u (by omega) (by have : (10 : Nat) ^ 7 = 10000000 := rfl; omega)
    omega
  · rw [e, List.length_cons]
    have := dec_len 7 u (by omega) (by have : (10 : Nat) ^ 7 = 10000000 := rfl; omega)
    omega
theorem things_len {k D A B N : Int} (hr : isaRight k D A B N = true) : (isaThings k D A B N).length ≤ 3 := by
  rw [← has_things hr, List.length_map, data_len]
  exact refHas_size k N
theorem words_len8 : ∀ (l : List Int), (∀ x ∈ l, -1048576 ≤ x ∧ x ≤ 1048575) → (showWords l).length ≤ 9 * l.length
  | [], _ => by simp [showWords]
  | x :: l, h => by
    have h1 := itoa_len8 (x := x) (by have := h x (by simp); omega)
    have h2 := words_len8 l (fun y hy => h y (by simp [hy]))
    simp only [showWords, List.flatMap_cons, List.length_append, List.length_cons] at *
    omega
theorem show_len {k D A B N : Int} (hr : isaRight k D A B N = true) : (isaShow k D A B N).length ≤ 60 := by
  unfold isaShow
  have h1 := words_len8 _ (things_span hr).1
  have h2 := things_len hr
  have h3 := (of_span k N).2.2
  rw [List.length_append, data_len]
  omega
/-- what is shown is read -/
theorem isaReadF_show {s : ByteArray} {k D A B N : Int} (hr : isaRight k D A B N = true) (hs : isaShow k D A B N = s.data.toList) : isaReadF s = some (k, D, A, B, N) := by
  unfold isaReadF
  have hl := show_len hr
  rw [hs, data_len] at hl
  have ha : s.data.toList.all (fun c => decide (c.toNat < 128)) = true := by
    rw [List.all_eq_true]
    intro c hc
    have := text_ascii k D A B N c (by unfold isaText; rw [if_pos hr, hs]; exact hc)
    simpa using this
  rw [if_neg (by omega), if_pos ha, ← hs]
  exact isaReadGo_show hr
theorem readGo_nil : isaReadGo [] [[]] 25 0 = none := by decide +kernel
/-- what is read is shown -/
theorem isaReadF_some {s : ByteArray} {k D A B N : Int} (h : isaReadF s = some (k, D, A, B, N)) : isaRight k D A B N = true ∧ isaShow k D A B N = s.data.toList := by
  unfold isaReadF at h
  split at h
  · cases h
  · split at h
    · have ht := isaReadGo_shows 25 0 h
      unfold isaText at ht
      split at ht
      · rename_i hr
        exact ⟨hr, ht⟩
      · rw [← ht] at h
        rw [show splitSp [] [] = [[]] from rfl, readGo_nil] at h
        cases h
    · cases h
theorem isaReadF_none {s : ByteArray} (h : ∀ k D A B N, isaRight k D A B N = true → isaShow k D A B N ≠ s.data.toList) : isaReadF s = none := by
  cases hr : isaReadF s with
  | none => rfl
  | some r =>
    obtain ⟨k, D, A, B, N⟩ := r
    have := isaReadF_some hr
    exact absurd this.2 (h k D A B N this.1)
/-! ### the reference's words -/
theorem ext_list (s : ByteArray) (a b : Nat) : (s.extract a b).data.toList = (s.data.toList.drop a).take (b - a) := by
  rw [ByteArray.data_extract, Array.toList_extract]
theorem refWords_l0 (s : ByteArray) (hs : s.size ≤ 1000) (d : Nat) : ∀ (i j : Nat) (acc : List ByteArray), i + d = s.size → j ≤ i → acc.length ≤ i →
    ∃ ws : List ByteArray, Ev (fun k => camletref39_words.l0 k s acc (j : Int) (i : Int)) ws ∧ ws.map (·.data.toList) = acc.map (·.data.toList) ++ splitSp ((s.data.toList.drop j).take (i - j)) (s.data.toList.drop i) ∧ (∀ x ∈ ws, x ∈ acc ∨ x.size ≤ 1000) := by
  induction d with
  | zero =>
    intro i j acc hi hj hacc
    have c1 : ¬ (i : Int) < (s.size : Int) := by omega
    have c2 : 0 ≤ (j : Int) := by omega
    have c3 : (j : Int) ≤ (s.size : Int) := by omega
    have c4 : acc.length < 8796093022208 := by omega
    refine ⟨acc ++ [s.extract (j : Int).toNat s.size], Ev.some 1 (fun k => ?_), ?_, fun x hx => ?_⟩
    · rw [camletref39_words.l0, if_neg c1, if_pos c2, if_pos c3, if_pos c4]
    · have e : s.data.toList.drop i = [] := List.drop_eq_nil_of_le (by rw [data_len]; omega)
      rw [e, splitSp, List.map_append, List.map_cons, List.map_nil, ext_list, Int.toNat_natCast, show s.size = i by omega]
    · rcases List.mem_append.1 hx with hx | hx
      · exact .inl hx
      · obtain rfl := List.mem_singleton.1 hx
        right
        rw [← data_len, ext_list, List.length_take]
        omega
  | succ d ih =>
    intro i j acc hi hj hacc
    have hlt : i < s.size := by omega
    have c1 : (i : Int) < (s.size : Int) := by omega
    have c2 : 0 ≤ (i : Int) := by omega
    have c3 : 0 ≤ (j : Int) := by omega
    have c4 : (j : Int) ≤ (i : Int) := by omega
    have c5 : (i : Int) ≤ (s.size : Int) := by omega
    have c6 : acc.length < 8796093022208 := by omega
    have hl : i < s.data.toList.length := by rw [data_len]; exact hlt
    have hb := bt_data s i hlt
    obtain ⟨c, hc⟩ : ∃ c, s.data.toList[i]'hl = c := ⟨_, rfl⟩
    rw [hc] at hb
    have hdr : s.data.toList.drop i = c :: s.data.toList.drop (i + 1) := by rw [List.drop_eq_getElem_cons hl, hc]
    have i1 : i + 1 + d = s.size := by omega
    have i2 : acc.length + 1 ≤ i + 1 := by omega
    have i3 : j ≤ i + 1 := by omega
    have i4 : acc.length ≤ i + 1 := by omega
    have ew : wrap64 ((i : Int) + 1) = ((i + 1 : Nat) : Int) := wr_i i s.size hlt (by omega)
    by_cases h32 : c = 32
    · have b32 : bt s (i : Int) = 32 := by rw [hb, h32]; rfl
      obtain ⟨ws, h1, h2, h3⟩ := ih (i + 1) (i + 1) (acc ++ [s.extract j i]) i1 (Nat.le_refl _) (by simpa using i2)
      refine ⟨ws, Ev.step (fun k => ?_) h1, ?_, fun x hx => ?_⟩
      · rw [camletref39_words.l0, if_pos c1, if_pos c2, if_pos b32, if_pos c3, if_pos c4, if_pos c5, if_pos c6, ew]
        rfl
      · rw [h2, hdr, splitSp, if_pos h32, List.map_append, List.map_cons, List.map_nil, ext_list]
        simp
      · rcases h3 x hx with h3 | h3
        · rcases List.mem_append.1 h3 with h3 | h3
          · exact .inl h3
          · obtain rfl := List.mem_singleton.1 h3
            right
            rw [← data_len, ext_list, List.length_take]
            omega
        · exact .inr h3
    · have b32 : ¬ bt s (i : Int) = 32 := fun h => h32 (UInt8.toNat.inj (by have h2 : ((32 : UInt8).toNat : Int) = 32 := rfl; omega))
      obtain ⟨ws, h1, h2, h3⟩ := ih (i + 1) j acc i1 i3 i4
      refine ⟨ws, Ev.step (fun k => ?_) h1, ?_, h3⟩
      · rw [camletref39_words.l0, if_pos c1, if_pos c2, if_neg b32, ew]
      · rw [h2, hdr, splitSp, if_neg h32]
        have e : (s.data.toList.drop j).take (i + 1 - j) = (s.data.toList.drop j).take (i - j) ++ [c] := by
          rw [show i + 1 - j = (i - j) + 1 by omega, List.take_succ_eq_append_getElem (by rw [List.length_drop]; omega), List.getElem_drop]
          congr 2
          simp only [show j + (i - j) = i by omega]
          exact hc
        rw [e]
theorem refWords (s : ByteArray) (hs : s.size ≤ 1000) : ∃ ws : List ByteArray, Ev (fun k => camletref39_words.f k s) ws ∧ ws.map (·.data.toList) = splitSp [] s.data.toList ∧ ∀ x ∈ ws, x.size ≤ 1000 := by
  obtain ⟨ws, h1, h2, h3⟩ := refWords_l0 s hs s.size 0 0 [] (by omega) (Nat.le_refl _) (by simp)
  refine ⟨ws, h1, by simpa using h2, fun x hx => (h3 x hx).elim (fun h => by simp at h) id⟩
/-! ### the reference's numbers -/
theorem ref01_val (x : ByteArray) (hx : x.size ≤ 1000) : ∃ n e : Int, num_Read.f x 1099511627776 = some (n, e) ∧ Ev (fun k => camletref01_Read.f k x 1099511627776) (n, e) ∧ 0 ≤ n ∧ n ≤ 1099511627776 := by
  obtain ⟨⟨n, e⟩, h1, h2⟩ := refread x 1099511627776 (by omega) (by decide) (by decide)
  refine ⟨n, e, h1, h2, ?_⟩
  unfold num_Read.f at h1
  rw [if_pos (by omega)] at h1
  by_cases h0 : x.size = 0
  · rw [if_pos h0] at h1; simp only [Option.some.injEq, Prod.mk.injEq] at h1; omega
  rw [if_neg h0] at h1
  by_cases h3 : 1 < x.size ∧ bt x 0 = 48
  · rw [if_pos h3] at h1; simp only [Option.some.injEq, Prod.mk.injEq] at h1; omega
  rw [if_neg h3] at h1
  by_cases h4 : allDig x
  · rw [if_pos h4, readEnd_dig x.data.toList (fun e => h0 (by rw [← data_len, e]; rfl)) (dig_data _ h4) 1099511627776 (by decide)] at h1
    split at h1
    · simp only [Option.some.injEq, Prod.mk.injEq] at h1; omega
    · simp only [Option.some.injEq, Prod.mk.injEq] at h1; omega
  · rw [if_neg h4] at h1; simp only [Option.some.injEq, Prod.mk.injEq] at h1; omega
theorem refNum_ev (x : ByteArray) (hx : x.size ≤ 1000) : ∃ n : Int, Ev (fun k => camletref39_number.f k x) n ∧ (∀ y : Int, -1048576 ≤ y → y ≤ 1048576 → x.data.toList = Lib.itoa y → n = y) := by
  have plain : ∃ n : Int, Ev (fun k => camletref39_number.j0 k x false) n ∧ (∀ u : Nat, u ≤ 1048576 → x.data.toList = Lib.decDigits u → n = (u : Int)) := by
    obtain ⟨n, e, h1, h2, h3, h4⟩ := ref01_val x hx
    refine ⟨n, Ev.step (fun k => by rw [camletref39_number.j0, if_neg (by decide)]) (Ev.bind h2 (Ev.now _)), fun u hu hxu => ?_⟩
    have hr := ip_read u 1099511627776 (by omega) (by decide)
    rw [← hxu, ba_list, h1] at hr
    simp only [Option.some.injEq, Prod.mk.injEq] at hr
    exact hr.1
  by_cases h1 : 1 < x.size
  · have c1 : (x.size : Int) > 1 := by omega
    have c2 : 0 < (x.size : Int) := by omega
    have c3 : 1 ≤ (x.size : Int) := by omega
    by_cases h45 : bt x 0 = 45
    · have hz : (x.extract 1 x.size).size ≤ 1000 := by rw [← data_len, ext_list, List.length_take, List.length_drop, data_len]; omega
      obtain ⟨n, e, k1, k2, k3, k4⟩ := ref01_val _ hz
      have ew : wrap64 (-n) = -n := by unfold wrap64; omega
      refine ⟨-n, ?_, fun y hy1 hy2 hxy => ?_⟩
      · refine Ev.congr (f := fun k => camletref39_number.j0 k x true) (fun k => ?_) ?_
        · unfold camletref39_number.f
          rw [if_pos c1, if_pos c2, h45]
          rfl
        · refine Ev.step (fun k => by rw [camletref39_number.j0, if_pos rfl, if_pos c3]) (Ev.bind k2 ?_)
          rw [ew]; exact Ev.now _
      · rcases itoa_form y with ⟨u, rfl, e⟩ | ⟨u, _, rfl, e⟩
        · exfalso
          rw [e] at hxy
          have hc := (dec_chars u).1
          rw [← hxy] at hc
          have hm := hc _ (List.getElem_mem (l := x.data.toList) (n := 0) (by rw [data_len]; omega))
          have hb := bt_data x 0 (by omega)
          rw [show (((0 : Nat) : Int)) = 0 from rfl, h45] at hb
          omega
        · rw [e] at hxy
          have he : (x.extract 1 x.size).data.toList = Lib.decDigits u := by
            rw [ext_list, hxy, List.drop_succ_cons, List.drop_zero]
            apply List.take_of_length_le
            have : x.data.toList.length = x.size := data_len x
            rw [hxy, List.length_cons] at this
            omega
          have hr := ip_read u 1099511627776 (by omega) (by decide)
          rw [← he, ba_list, k1] at hr
          simp only [Option.some.injEq, Prod.mk.injEq] at hr
          omega
    · obtain ⟨n, hn1, hn2⟩ := plain
      refine ⟨n, ?_, fun y hy1 hy2 hxy => ?_⟩
      · refine Ev.congr (f := fun k => camletref39_number.j0 k x false) (fun k => ?_) hn1
        unfold camletref39_number.f
        rw [if_pos c1, if_pos c2, beq_eq_false_iff_ne.mpr h45]
      · rcases itoa_form y with ⟨u, rfl, e⟩ | ⟨u, _, rfl, e⟩
        · exact hn2 u (by omega) (hxy.trans e)
        · exfalso
          rw [e] at hxy
          apply h45
          have hb := bt_data x 0 (by omega)
          rw [show (((0 : Nat) : Int)) = 0 from rfl] at hb
          rw [hb]
          simp only [hxy]
          rfl
  · obtain ⟨n, hn1, hn2⟩ := plain
    have c1 : ¬ (x.size : Int) > 1 := by omega
    refine ⟨n, ?_, fun y hy1 hy2 hxy => ?_⟩
    · refine Ev.congr (f := fun k => camletref39_number.j0 k x false) (fun k => ?_) hn1
      unfold camletref39_number.f
      rw [if_neg c1]
    · rcases itoa_form y with ⟨u, rfl, e⟩ | ⟨u, _, rfl, e⟩
      · exact hn2 u (by omega) (hxy.trans e)
      · exfalso
        rw [e] at hxy
        have h3 := (dec_chars u).2
        have : x.data.toList.length = x.size := data_len x
        rw [hxy, List.length_cons] at this
        exact h3 (List.length_eq_zero_iff.1 (by omega))
/-! ### the reference's loops -/
/-- letters' fields set in order, as long as there are numbers -/
def refSet : List UInt8 → List Int → Int → Int → Int → Int → Int × Int × Int × Int
  | c :: r, n :: l, D, A, B, N => if c = 68 then refSet r l n A B N else if c = 65 then refSet r l D n B N else if c = 66 then refSet r l D A n N else refSet r l D A B n
  | _, _, D, A, B, N => (D, A, B, N)
def refAns (s : ByteArray) (k D A B N : Int) : Int × Int × Int × Int × Int × Bool := if isaText k D A B N = s.data.toList then (k, D, A, B, N, true) else (0, 0, 0, 0, 0, false)
theorem refSetOne (k D A B N n : Int) (c : UInt8) : camletref39_set.f k D A B N (c.toNat : Int) n = some (if c = 68 then (k, n, A, B, N) else if c = 65 then (k, D, n, B, N) else if c = 66 then (k, D, A, n, N) else (k, D, A, B, n)) := by
  unfold camletref39_set.f
  have e : ∀ d : UInt8, ((c.toNat : Int) = (d.toNat : Int)) → c = d := fun d h => UInt8.toNat.inj (by omega)
  by_cases h1 : c = 68
  · subst h1; rfl
  have n68 : ¬ (c.toNat : Int) = 68 := fun h => h1 (e 68 h)
  rw [if_neg n68, if_neg h1]
  by_cases h2 : c = 65
  · subst h2; rfl
  have n65 : ¬ (c.toNat : Int) = 65 := fun h => h2 (e 65 h)
  rw [if_neg n65, if_neg h2]
  by_cases h3 : c = 66
  · subst h3; rfl
  have n66 : ¬ (c.toNat : Int) = 66 := fun h => h3 (e 66 h)
  rw [if_neg n66, if_neg h3]
theorem refTail (s : ByteArray) (ws : List ByteArray) (T : ByteArray) (i : Int) (k D A B N : Int) : Ev (fun n => camletref39_Read.j5 n s ws T i false k D A B N) (refAns s k D A B N) := by
  refine Ev.step (fun n => by rw [camletref39_Read.j5, if_neg (by decide)]) (Ev.bind (refShow_ev k D A B N) ?_)
  unfold refAns
  have e : ((⟨(isaText k D A B N).toArray⟩ : ByteArray).toList = s.toList) ↔ isaText k D A B N = s.data.toList := by rw [ByteArray.toList_eq, ByteArray.toList_eq]
  by_cases h : isaText k D A B N = s.data.toList
  · rw [if_pos h]; exact Ev.pos (e.2 h) (Ev.now _)
  · rw [if_neg h]; exact Ev.neg (fun h2 => h (e.1 h2)) (Ev.now _)
/-- the numbers of words -/
def NumsOf (ws : List ByteArray) (ns : List Int) : Prop := ns.length + 1 = ws.length ∧ ∀ (i : Nat) (h : i < ns.length), Ev (fun k => camletref39_number.f k (rdOf ByteArray.empty ws ((i + 1 : Nat) : Int))) ns[i]
theorem refLoop1 {s : ByteArray} {ws : List ByteArray} {ns : List Int} (hn : NumsOf ws ns) (hw : ws.length ≤ 2000) {T : ByteArray} (hT : T.size ≤ 10) (k : Int) (d : Nat) : ∀ (i : Nat) (D A B N : Int), i + d = T.size →
    Ev (fun n => camletref39_Read.l1 n s ws T (i : Int) k D A B N) (refAns s k (refSet (T.data.toList.drop i) (ns.drop i) D A B N).1 (refSet (T.data.toList.drop i) (ns.drop i) D A B N).2.1 (refSet (T.data.toList.drop i) (ns.drop i) D A B N).2.2.1 (refSet (T.data.toList.drop i) (ns.drop i) D A B N).2.2.2) := by
  induction d with
  | zero =>
    intro i D A B N hi
    have c1 : ¬ (i : Int) < (T.size : Int) := by omega
    have e : T.data.toList.drop i = [] := List.drop_eq_nil_of_le (by rw [data_len]; omega)
    rw [e, show refSet [] (ns.drop i) D A B N = (D, A, B, N) from by cases ns.drop i <;> rfl]
    exact Ev.step (fun n => by rw [camletref39_Read.l1, if_neg c1]) (refTail s ws T i k D A B N)
  | succ d ih =>
    intro i D A B N hi
    have hlt : i < T.size := by omega
    have hl : i < T.data.toList.length := by rw [data_len]; exact hlt
    have c1 : (i : Int) < (T.size : Int) := by omega
    have c2 : 0 ≤ (i : Int) := by omega
    have c3 : 0 ≤ ((i + 1 : Nat) : Int) := by omega
    have hb := bt_data T i hlt
    obtain ⟨c, hc⟩ : ∃ c, T.data.toList[i]'hl = c := ⟨_, rfl⟩
    rw [hc] at hb
    have hdr : T.data.toList.drop i = c :: T.data.toList.drop (i + 1) := by rw [List.drop_eq_getElem_cons hl, hc]
    have i1 : i + 1 + d = T.size := by omega
    have hnl := hn.1
    by_cases hni : i < ns.length
    · have c4 : ((i + 1 : Nat) : Int) < (ws.length : Int) := by omega
      have ew : wrap64 ((i : Int) + 1) = ((i + 1 : Nat) : Int) := wr_i i T.size hlt (by omega)
      have hnd : ns.drop i = ns[i] :: ns.drop (i + 1) := List.drop_eq_getElem_cons hni
      have hev := hn.2 i hni
      rw [hdr, hnd]
      generalize ns[i] = x at *
      refine Ev.step (f := fun n => camletref39_Read.j5 n s ws T (i : Int) true k D A B N) (fun n => ?_) ?_
      · rw [camletref39_Read.l1, if_pos c1, ew, decide_eq_true c4]
      · refine Ev.step (fun n => by rw [camletref39_Read.j5, if_pos rfl, if_pos c2, if_pos c1, ew, if_pos c3, if_pos c4]) (Ev.bind hev ?_)
        rw [hb]
        refine Ev.val (refSetOne k D A B N x c) ?_
        unfold refSet
        by_cases h1 : c = 68
        · simp only [if_pos h1]; exact ih (i + 1) x A B N i1
        · by_cases h2 : c = 65
          · simp only [if_neg h1, if_pos h2]; exact ih (i + 1) D x B N i1
          · by_cases h3 : c = 66
            · simp only [if_neg h1, if_neg h2, if_pos h3]; exact ih (i + 1) D A x N i1
            · simp only [if_neg h1, if_neg h2, if_neg h3]; exact ih (i + 1) D A B x i1
    · have c4 : ¬ wrap64 ((i : Int) + 1) < (ws.length : Int) := by rw [wr_i i T.size hlt (by omega)]; omega
      have hnd : ns.drop i = [] := List.drop_eq_nil_of_le (by omega)
      rw [hnd, show refSet (T.data.toList.drop i) [] D A B N = (D, A, B, N) from by cases T.data.toList.drop i <;> rfl]
      refine Ev.step (f := fun n => camletref39_Read.j5 n s ws T (i : Int) false k D A B N) (fun n => ?_) (refTail s ws T i k D A B N)
      rw [camletref39_Read.l1, if_pos c1, decide_eq_false c4]
/-- the kind of a word -/
def refKind (w0 : ByteArray) : Nat → Nat → Int → Int
  | 0, _, K => K
  | d + 1, j, K => refKind w0 d (j + 1) (if (isaForm (j : Int)).1 = w0 then (j : Int) else K)
theorem refKind_keep (w0 : ByteArray) : ∀ (d j : Nat) (K : Int), (∀ i, j ≤ i → i < j + d → (isaForm (i : Int)).1 ≠ w0) → refKind w0 d j K = K
  | 0, _, _, _ => rfl
  | d + 1, j, K, h => by
    rw [refKind, if_neg (h j (Nat.le_refl _) (by omega))]
    exact refKind_keep w0 d (j + 1) K (fun i h1 h2 => h i (by omega) (by omega))
theorem refKind_hit (kk : Nat) (hk : kk < 25) : ∀ (d j : Nat) (K : Int), j + d = 25 → j ≤ kk → refKind (isaForm (kk : Int)).1 d j K = (kk : Int)
  | 0, j, K, h, h2 => by omega
  | d + 1, j, K, h, h2 => by
    rw [refKind]
    by_cases e : j = kk
    · subst e
      rw [if_pos rfl]
      refine refKind_keep _ d (j + 1) _ (fun i h3 h4 he => ?_)
      have := name_inj i j (by omega) hk (by rw [he])
      omega
    · exact refKind_hit kk hk d (j + 1) _ (by omega) (by omega)
theorem refLoop0 {s : ByteArray} {ws : List ByteArray} (hw : 0 < ws.length) {D A B N : Int} {r : Int × Int × Int × Int × Int × Bool} (d : Nat) : ∀ (j : Nat) (K : Int), j + d = 25 →
    Ev (fun n => if refKind (rdOf ByteArray.empty ws 0) d j K = 24 then camletref39_Read.j2 n s ws (decide ((ws.length : Int) > 1)) (refKind (rdOf ByteArray.empty ws 0) d j K) D A B N else camletref39_Read.j2 n s ws false (refKind (rdOf ByteArray.empty ws 0) d j K) D A B N) r →
    Ev (fun n => camletref39_Read.l0 n s ws (j : Int) K D A B N) r := by
  induction d with
  | zero =>
    intro j K hj h
    have c1 : ¬ (j : Int) < 25 := by omega
    exact Ev.step (fun n => by rw [camletref39_Read.l0, if_neg c1]; rfl) h
  | succ d ih =>
    intro j K hj h
    have c1 : (j : Int) < 25 := by omega
    have c2 : 0 < (ws.length : Int) := by omega
    have i1 : j + 1 + d = 25 := by omega
    have ew : wrap64 ((j : Int) + 1) = ((j + 1 : Nat) : Int) := wr_i j 25 (by omega) (by omega)
    have hih := ih (j + 1) (if (isaForm (j : Int)).1 = rdOf ByteArray.empty ws 0 then (j : Int) else K) i1 h
    have e : ((isaForm (j : Int)).1.toList = (rdOf ByteArray.empty ws 0).toList) ↔ (isaForm (j : Int)).1 = rdOf ByteArray.empty ws 0 := by
      rw [ByteArray.toList_eq, ByteArray.toList_eq]; exact (ba_eq _ _).symm
    refine Ev.step (fun n => ?_) hih
    rw [camletref39_Read.l0, if_pos c1, refName, Option.bind_some, if_pos c2, ew]
    by_cases h1 : (isaForm (j : Int)).1 = rdOf ByteArray.empty ws 0
    · rw [if_pos (e.2 h1), if_pos h1]
    · rw [if_neg (fun h2 => h1 (e.1 h2)), if_neg h1]
theorem refNums (ws : List ByteArray) (hs : ∀ x ∈ ws, x.size ≤ 1000) (hw : 0 < ws.length) : ∃ ns, NumsOf ws ns ∧ ∀ l : List Int, (∀ y ∈ l, -1048576 ≤ y ∧ y ≤ 1048576) → (ws.drop 1).map (·.data.toList) = l.map Lib.itoa → ns = l := by
  have key : ∀ (q : List ByteArray), (∀ x ∈ q, x.size ≤ 1000) → ∃ ns : List Int, ns.length = q.length ∧ (∀ (i : Nat) (h : i < ns.length) (h2 : i < q.length), Ev (fun k => camletref39_number.f k q[i]) ns[i]) ∧ ∀ l : List Int, (∀ y ∈ l, -1048576 ≤ y ∧ y ≤ 1048576) → q.map (·.data.toList) = l.map Lib.itoa → ns = l := by
    intro q
    induction q with
    | nil =>
      intro _
      refine ⟨[], rfl, fun i h => absurd h (Nat.not_lt_zero _), fun l _ h => ?_⟩
      cases l with
      | nil => rfl
      | cons a b => simp at h
    | cons x q ih =>
      intro hq
      obtain ⟨n, h1, h2⟩ := refNum_ev x (hq x (by simp))
      obtain ⟨ns, k1, k2, k3⟩ := ih (fun y hy => hq y (by simp [hy]))
      refine ⟨n :: ns, by simp [k1], fun i hi hi2 => ?_, fun l hl h => ?_⟩
      · cases i with
        | zero => exact h1
        | succ i => exact k2 i (by simpa using hi) (by simpa using hi2)
      · cases l with
        | nil => simp at h
        | cons a b =>
          rw [List.map_cons, List.map_cons, List.cons.injEq] at h
          have ha := hl a (by simp)
          rw [h2 a (by omega) (by omega) h.1, k3 b (fun y hy => hl y (by simp [hy])) h.2]
  obtain ⟨ns, k1, k2, k3⟩ := key (ws.drop 1) (fun x hx => hs x (List.mem_of_mem_drop hx))
  rw [List.length_drop] at k1
  refine ⟨ns, ⟨by omega, fun i hi => ?_⟩, k3⟩
  have h2 : i < (ws.drop 1).length := by rw [List.length_drop]; omega
  have e : rdOf ByteArray.empty ws ((i + 1 : Nat) : Int) = (ws.drop 1)[i] := by
    unfold rdOf
    rw [Int.toNat_natCast, List.getD_eq_getElem?_getD, List.getElem?_eq_getElem (by omega), List.getElem_drop]
    simp only [Option.getD_some]
    congr 1
    omega
  rw [e]
  exact k2 i hi h2
theorem refAns_no {s : ByteArray} (hne : s.data.toList ≠ []) (h : ∀ k D A B N, isaRight k D A B N = true → isaShow k D A B N ≠ s.data.toList) (k D A B N : Int) : refAns s k D A B N = (0, 0, 0, 0, 0, false) := by
  unfold refAns
  rw [if_neg]
  intro he
  unfold isaText at he
  split at he
  · rename_i hr; exact h k D A B N hr he
  · exact hne he.symm
theorem refRead_j3 {s : ByteArray} {ws : List ByteArray} {ns : List Int} (hn : NumsOf ws ns) (hw : ws.length ≤ 2000) (k D A B N : Int) :
    Ev (fun n => camletref39_Read.j3 n s ws k D A B N) (refAns s k (refSet (refHas k N).data.toList ns D A B N).1 (refSet (refHas k N).data.toList ns D A B N).2.1 (refSet (refHas k N).data.toList ns D A B N).2.2.1 (refSet (refHas k N).data.toList ns D A B N).2.2.2) := by
  refine Ev.step (fun n => by rw [camletref39_Read.j3]) (Ev.bind (refHas_ev k D A B N) ?_)
  have := refLoop1 (s := s) hn hw (T := refHas k N) (by have := refHas_size k N; omega) k (refHas k N).size 0 D A B N (by omega)
  rw [List.drop_zero, List.drop_zero] at this
  exact this
theorem refSet_vals : ∀ (l : List UInt8) (D A B N d a b n : Int), refSet l (l.map (fieldVal D A B N)) d a b n = (if 68 ∈ l then D else d, if 65 ∈ l then A else a, if 66 ∈ l then B else b, if (l.any fun c => c != 68 && c != 65 && c != 66) then N else n)
  | [], D, A, B, N, d, a, b, n => by simp [refSet]
  | c :: l, D, A, B, N, d, a, b, n => by
    rw [List.map_cons, refSet]
    by_cases h1 : c = 68
    · subst h1
      rw [if_pos rfl, refSet_vals l]
      have e : fieldVal D A B N 68 = D := rfl
      rw [e]
      by_cases h : (68 : UInt8) ∈ l <;> simp [h]
    rw [if_neg h1]
    by_cases h2 : c = 65
    · subst h2
      rw [if_pos rfl, refSet_vals l]
      have e : fieldVal D A B N 65 = A := rfl
      rw [e]
      by_cases h : (65 : UInt8) ∈ l <;> simp [h]
    rw [if_neg h2]
    by_cases h3 : c = 66
    · subst h3
      rw [if_pos rfl, refSet_vals l]
      have e : fieldVal D A B N 66 = B := rfl
      rw [e]
      by_cases h : (66 : UInt8) ∈ l <;> simp [h]
    rw [if_neg h3, refSet_vals l]
    have e : fieldVal D A B N c = N := by unfold fieldVal; rw [if_neg h1, if_neg h2, if_neg h3]
    rw [e]
    by_cases h : (l.any fun c => c != 68 && c != 65 && c != 66) = true <;> simp [h, h1, h2, h3, Ne.symm h1, Ne.symm h2, Ne.symm h3]
theorem has_mem {k D A B N : Int} (hr : isaRight k D A B N = true) : ((68 ∈ (refHas k N).data.toList) ↔ (68 ∈ (isaOf k N).2.1.data.toList)) ∧ ((65 ∈ (refHas k N).data.toList) ↔ (65 ∈ (isaOf k N).2.1.data.toList)) ∧ ((66 ∈ (refHas k N).data.toList) ↔ (66 ∈ (isaOf k N).2.1.data.toList)) ∧ ((((refHas k N).data.toList.any fun c => c != 68 && c != 65 && c != 66) = true) ∨ (k ≠ 24 ∧ N = 0)) ∧ (k ≠ 24 → refHas k 0 = refHas k N) := by
  have hp := right_parts hr
  obtain ⟨kk, rfl, hk⟩ := right_kind hr
  by_cases h24 : kk = 24
  · subst h24
    have hN : N = 1 ∨ N = 2 ∨ N = 3 ∨ N = 4 := by
      obtain ⟨_, h1, h2, _⟩ := hp
      have hlh : (isaOf ((24 : Nat) : Int) N).2.2 = (1, 4) := by unfold isaOf; split <;> rfl
      rw [hlh] at h1 h2
      dsimp only at h1 h2
      omega
    clear hp hr
    rcases hN with rfl | rfl | rfl | rfl <;> exact ⟨by decide, by decide, by decide, .inl (by decide), fun h => absurd rfl h⟩
  · have e : isaOf (kk : Int) N = isaForm (kk : Int) := by unfold isaOf; rw [if_neg (fun h => h24 (by omega))]
    rw [e] at hp ⊢
    have hN : 0 < (isaForm (kk : Int)).2.2.2 ∨ N = 0 := by
      by_cases h : 0 < (isaForm (kk : Int)).2.2.2
      · exact .inl h
      · have := form_zeroN _ h
        right; omega
    clear hp hr e
    have h : kk = 0 ∨ kk = 1 ∨ kk = 2 ∨ kk = 3 ∨ kk = 4 ∨ kk = 5 ∨ kk = 6 ∨ kk = 7 ∨ kk = 8 ∨ kk = 9 ∨ kk = 10 ∨ kk = 11 ∨ kk = 12 ∨ kk = 13 ∨ kk = 14 ∨ kk = 15 ∨ kk = 16 ∨ kk = 17 ∨ kk = 18 ∨ kk = 19 ∨ kk = 20 ∨ kk = 21 ∨ kk = 22 ∨ kk = 23 := by omega
    rcases h with rfl | rfl | rfl | rfl | rfl | rfl | rfl | rfl | rfl | rfl | rfl | rfl | rfl | rfl | rfl | rfl | rfl | rfl | rfl | rfl | rfl | rfl | rfl | rfl
    · refine ⟨?_, ?_, ?_, ?_, fun _ => rfl⟩
      · exact (show ((68 : UInt8) ∈ (refHas ((0 : Nat) : Int) 0).data.toList) ↔ ((68 : UInt8) ∈ (isaForm ((0 : Nat) : Int)).2.1.data.toList) from by decide)
      · exact (show ((65 : UInt8) ∈ (refHas ((0 : Nat) : Int) 0).data.toList) ↔ ((65 : UInt8) ∈ (isaForm ((0 : Nat) : Int)).2.1.data.toList) from by decide)
      · exact (show ((66 : UInt8) ∈ (refHas ((0 : Nat) : Int) 0).data.toList) ↔ ((66 : UInt8) ∈ (isaForm ((0 : Nat) : Int)).2.1.data.toList) from by decide)
      · rcases hN with h | h
        · first | exact .inl rfl | exact absurd h (by decide)
        · exact .inr ⟨by decide, h⟩
    · refine ⟨?_, ?_, ?_, ?_, fun _ => rfl⟩
      · exact (show ((68 : UInt8) ∈ (refHas ((1 : Nat) : Int) 0).data.toList) ↔ ((68 : UInt8) ∈ (isaForm ((1 : Nat) : Int)).2.1.data.toList) from by decide)
      · exact (show ((65 : UInt8) ∈ (refHas ((1 : Nat) : Int) 0).data.toList) ↔ ((65 : UInt8) ∈ (isaForm ((1 : Nat) : Int)).2.1.data.toList) from by decide)
      · exact (show ((66 : UInt8) ∈ (refHas ((1 : Nat) : Int) 0).data.toList) ↔ ((66 : UInt8) ∈ (isaForm ((1 : Nat) : Int)).2.1.data.toList) from by decide)
      · rcases hN with h | h
        · first | exact .inl rfl | exact absurd h (by decide)
        · exact .inr ⟨by decide, h⟩
    · refine ⟨?_, ?_, ?_, ?_, fun _ => rfl⟩
      · exact (show ((68 : UInt8) ∈ (refHas ((2 : Nat) : Int) 0).data.toList) ↔ ((68 : UInt8) ∈ (isaForm ((2 : Nat) : Int)).2.1.data.toList) from by decide)
      · exact (show ((65 : UInt8) ∈ (refHas ((2 : Nat) : Int) 0).data.toList) ↔ ((65 : UInt8) ∈ (isaForm ((2 : Nat) : Int)).2.1.data.toList) from by decide)
      · exact (show ((66 : UInt8) ∈ (refHas ((2 : Nat) : Int) 0).data.toList) ↔ ((66 : UInt8) ∈ (isaForm ((2 : Nat) : Int)).2.1.data.toList) from by decide)
      · rcases hN with h | h
        · first | exact .inl rfl | exact absurd h (by decide)
        · exact .inr ⟨by decide, h⟩
    · refine ⟨?_, ?_, ?_, ?_, fun _ => rfl⟩
      · exact (show ((68 : UInt8) ∈ (refHas ((3 : Nat) : Int) 0).data.toList) ↔ ((68 : UInt8) ∈ (isaForm ((3 : Nat) : Int)).2.1.data.toList) from by decide)
      · exact (show ((65 : UInt8) ∈ (refHas ((3 : Nat) : Int) 0).data.toList) ↔ ((65 : UInt8) ∈ (isaForm ((3 : Nat) : Int)).2.1.data.toList) from by decide)
      · exact (show ((66 : UInt8) ∈ (refHas ((3 : Nat) : Int) 0).data.toList) ↔ ((66 : UInt8) ∈ (isaForm ((3 : Nat) : Int)).2.1.data.toList) from by decide)
      · rcases hN with h | h
        · first | exact .inl rfl | exact absurd h (by decide)
        · exact .inr ⟨by decide, h⟩
    · refine ⟨?_, ?_, ?_, ?_, fun _ => rfl⟩
      · exact (show ((68 : UInt8) ∈ (refHas ((4 : Nat) : Int) 0).data.toList) ↔ ((68 : UInt8) ∈ (isaForm ((4 : Nat) : Int)).2.1.data.toList) from by decide)
      · exact (show ((65 : UInt8) ∈ (refHas ((4 : Nat) : Int) 0).data.toList) ↔ ((65 : UInt8) ∈ (isaForm ((4 : Nat) : Int)).2.1.data.toList) from by decide)
      · exact (show ((66 : UInt8) ∈ (refHas ((4 : Nat) : Int) 0).data.toList) ↔ ((66 : UInt8) ∈ (isaForm ((4 : Nat) : Int)).2.1.data.toList) from by decide)
      · rcases hN with h | h
        · first | exact .inl rfl | exact absurd h (by decide)
        · exact .inr ⟨by decide, h⟩
    · refine ⟨?_, ?_, ?_, ?_, fun _ => rfl⟩
      · exact (show ((68 : UInt8) ∈ (refHas ((5 : Nat) : Int) 0).data.toList) ↔ ((68 : UInt8) ∈ (isaForm ((5 : Nat) : Int)).2.1.data.toList) from by decide)
      · exact (show ((65 : UInt8) ∈ (refHas ((5 : Nat) : Int) 0).data.toList) ↔ ((65 : UInt8) ∈ (isaForm ((5 : Nat) : Int)).2.1.data.toList) from by decide)
      · exact (show ((66 : UInt8) ∈ (refHas ((5 : Nat) : Int) 0).data.toList) ↔ ((66 : UInt8) ∈ (isaForm ((5 : Nat) : Int)).2.1.data.toList) from by decide)
      · rcases hN with h | h
        · first | exact .inl rfl | exact absurd h (by decide)
        · exact .inr ⟨by decide, h⟩
    · refine ⟨?_, ?_, ?_, ?_, fun _ => rfl⟩
      · exact (show ((68 : UInt8) ∈ (refHas ((6 : Nat) : Int) 0).data.toList) ↔ ((68 : UInt8) ∈ (isaForm ((6 : Nat) : Int)).2.1.data.toList) from by decide)
      · exact (show ((65 : UInt8) ∈ (refHas ((6 : Nat) : Int) 0).data.toList) ↔ ((65 : UInt8) ∈ (isaForm ((6 : Nat) : Int)).2.1.data.toList) from by decide)
      · exact (show ((66 : UInt8) ∈ (refHas ((6 : Nat) : Int) 0).data.toList) ↔ ((66 : UInt8) ∈ (isaForm ((6 : Nat) : Int)).2.1.data.toList) from by decide)
      · rcases hN with h | h
        · first | exact .inl rfl | exact absurd h (by decide)
        · exact .inr ⟨by decide, h⟩
    · refine ⟨?_, ?_, ?_, ?_, fun _ => rfl⟩
      · exact (show ((68 : UInt8) ∈ (refHas ((7 : Nat) : Int) 0).data.toList) ↔ ((68 : UInt8) ∈ (isaForm ((7 : Nat) : Int)).2.1.data.toList) from by decide)
      · exact (show ((65 : UInt8) ∈ (refHas ((7 : Nat) : Int) 0).data.toList) ↔ ((65 : UInt8) ∈ (isaForm ((7 : Nat) : Int)).2.1.data.toList) from by decide)
      · exact (show ((66 : UInt8) ∈ (refHas ((7 : Nat) : Int) 0).data.toList) ↔ ((66 : UInt8) ∈ (isaForm ((7 : Nat) : Int)).2.1.data.toList) from by decide)
      · rcases hN with h | h
        · first | exact .inl rfl | exact absurd h (by decide)
        · exact .inr ⟨by decide, h⟩
    · refine ⟨?_, ?_, ?_, ?_, fun _ => rfl⟩
      · exact (show ((68 : UInt8) ∈ (refHas ((8 : Nat) : Int) 0).data.toList) ↔ ((68 : UInt8) ∈ (isaForm ((8 : Nat) : Int)).2.1.data.toList) from by decide)
      · exact (show ((65 : UInt8) ∈ (refHas ((8 : Nat) : Int) 0).data.toList) ↔ ((65 : UInt8) ∈ (isaForm ((8 : Nat) : Int)).2.1.data.toList) from by decide)
      · exact (show ((66 : UInt8) ∈ (refHas ((8 : Nat) : Int) 0).data.toList) ↔ ((66 : UInt8) ∈ (isaForm ((8 : Nat) : Int)).2.1.data.toList) from by decide)
      · rcases hN with h | h
        · first | exact .inl rfl | exact absurd h (by decide)
        · exact .inr ⟨by decide, h⟩
    · refine ⟨?_, ?_, ?_, ?_, fun _ => rfl⟩
      · exact (show ((68 : UInt8) ∈ (refHas ((9 : Nat) : Int) 0).data.toList) ↔ ((68 : UInt8) ∈ (isaForm ((9 : Nat) : Int)).2.1.data.toList) from by decide)
      · exact (show ((65 : UInt8) ∈ (refHas ((9 : Nat) : Int) 0).data.toList) ↔ ((65 : UInt8) ∈ (isaForm ((9 : Nat) : Int)).2.1.data.toList) from by decide)
      · exact (show ((66 : UInt8) ∈ (refHas ((9 : Nat) : Int) 0).data.toList) ↔ ((66 : UInt8) ∈ (isaForm ((9 : Nat) : Int)).2.1.data.toList) from by decide)
      · rcases hN with h | h
        · first | exact .inl rfl | exact absurd h (by decide)
        · exact .inr ⟨by decide, h⟩
    · refine ⟨?_, ?_, ?_, ?_, fun _ => rfl⟩
      · exact (show ((68 : UInt8) ∈ (refHas ((10 : Nat) : Int) 0).data.toList) ↔ ((68 : UInt8) ∈ (isaForm ((10 : Nat) : Int)).2.1.data.toList) from by decide)
      · exact (show ((65 : UInt8) ∈ (refHas ((10 : Nat) : Int) 0).data.toList) ↔ ((65 : UInt8) ∈ (isaForm ((10 : Nat) : Int)).2.1.data.toList) from by decide)
      · exact (show ((66 : UInt8) ∈ (refHas ((10 : Nat) : Int) 0).data.toList) ↔ ((66 : UInt8) ∈ (isaForm ((10 : Nat) : Int)).2.1.data.toList) from by decide)
      · rcases hN with h | h
        · first | exact .inl rfl | exact absurd h (by decide)
        · exact .inr ⟨by decide, h⟩
    · refine ⟨?_, ?_, ?_, ?_, fun _ => rfl⟩
      · exact (show ((68 : UInt8) ∈ (refHas ((11 : Nat) : Int) 0).data.toList) ↔ ((68 : UInt8) ∈ (isaForm ((11 : Nat) : Int)).2.1.data.toList) from by decide)
      · exact (show ((65 : UInt8) ∈ (refHas ((11 : Nat) : Int) 0).data.toList) ↔ ((65 : UInt8) ∈ (isaForm ((11 : Nat) : Int)).2.1.data.toList) from by decide)
      · exact (show ((66 : UInt8) ∈ (refHas ((11 : Nat) : Int) 0).data.toList) ↔ ((66 : UInt8) ∈ (isaForm ((11 : Nat) : Int)).2.1.data.toList) from by decide)
      · rcases hN with h | h
        · first | exact .inl rfl | exact absurd h (by decide)
        · exact .inr ⟨by decide, h⟩
    · refine ⟨?_, ?_, ?_, ?_, fun _ => rfl⟩
      · exact (show ((68 : UInt8) ∈ (refHas ((12 : Nat) : Int) 0).data.toList) ↔ ((68 : UInt8) ∈ (isaForm ((12 : Nat) : Int)).2.1.data.toList) from by decide)
      · exact (show ((65 : UInt8) ∈ (refHas ((12 : Nat) : Int) 0).data.toList) ↔ ((65 : UInt8) ∈ (isaForm ((12 : Nat) : Int)).2.1.data.toList) from by decide)
      · exact (show ((66 : UInt8) ∈ (refHas ((12 : Nat) : Int) 0).data.toList) ↔ ((66 : UInt8) ∈ (isaForm ((12 : Nat) : Int)).2.1.data.toList) from by decide)
      · rcases hN with h | h
        · first | exact .inl rfl | exact absurd h (by decide)
        · exact .inr ⟨by decide, h⟩
    · refine ⟨?_, ?_, ?_, ?_, fun _ => rfl⟩
      · exact (show ((68 : UInt8) ∈ (refHas ((13 : Nat) : Int) 0).data.toList) ↔ ((68 : UInt8) ∈ (isaForm ((13 : Nat) : Int)).2.1.data.toList) from by decide)
      · exact (show ((65 : UInt8) ∈ (refHas ((13 : Nat) : Int) 0).data.toList) ↔ ((65 : UInt8) ∈ (isaForm ((13 : Nat) : Int)).2.1.data.toList) from by decide)
      · exact (show ((66 : UInt8) ∈ (refHas ((13 : Nat) : Int) 0).data.toList) ↔ ((66 : UInt8) ∈ (isaForm ((13 : Nat) : Int)).2.1.data.toList) from by decide)
      · rcases hN with h | h
        · first | exact .inl rfl | exact absurd h (by decide)
        · exact .inr ⟨by decide, h⟩
    · refine ⟨?_, ?_, ?_, ?_, fun _ => rfl⟩
      · exact (show ((68 : UInt8) ∈ (refHas ((14 : Nat) : Int) 0).data.toList) ↔ ((68 : UInt8) ∈ (isaForm ((14 : Nat) : Int)).2.1.data.toList) from by decide)
      · exact (show ((65 : UInt8) ∈ (refHas ((14 : Nat) : Int) 0).data.toList) ↔ ((65 : UInt8) ∈ (isaForm ((14 : Nat) : Int)).2.1.data.toList) from by decide)
      · exact (show ((66 : UInt8) ∈ (refHas ((14 : Nat) : Int) 0).data.toList) ↔ ((66 : UInt8) ∈ (isaForm ((14 : Nat) : Int)).2.1.data.toList) from by decide)
      · rcases hN with h | h
        · first | exact .inl rfl | exact absurd h (by decide)
        · exact .inr ⟨by decide, h⟩
    · refine ⟨?_, ?_, ?_, ?_, fun _ => rfl⟩
      · exact (show ((68 : UInt8) ∈ (refHas ((15 : Nat) : Int) 0).data.toList) ↔ ((68 : UInt8) ∈ (isaForm ((15 : Nat) : Int)).2.1.data.toList) from by decide)
      · exact (show ((65 : UInt8) ∈ (refHas ((15 : Nat) : Int) 0).data.toList) ↔ ((65 : UInt8) ∈ (isaForm ((15 : Nat) : Int)).2.1.data.toList) from by decide)
      · exact (show ((66 : UInt8) ∈ (refHas ((15 : Nat) : Int) 0).data.toList) ↔ ((66 : UInt8) ∈ (isaForm ((15 : Nat) : Int)).2.1.data.toList) from by decide)
      · rcases hN with h | h
        · first | exact .inl rfl | exact absurd h (by decide)
        · exact .inr ⟨by decide, h⟩
    · refine ⟨?_, ?_, ?_, ?_, fun _ => rfl⟩
      · exact (show ((68 : UInt8) ∈ (refHas ((16 : Nat) : Int) 0).data.toList) ↔ ((68 : UInt8) ∈ (isaForm ((16 : Nat) : Int)).2.1.data.toList) from by decide)
      · exact (show ((65 : UInt8) ∈ (refHas ((16 : Nat) : Int) 0).data.toList) ↔ ((65 : UInt8) ∈ (isaForm ((16 : Nat) : Int)).2.1.data.toList) from by decide)
      · exact (show ((66 : UInt8) ∈ (refHas ((16 : Nat) : Int) 0).data.toList) ↔ ((66 : UInt8) ∈ (isaForm ((16 : Nat) : Int)).2.1.data.toList) from by decide)
      · rcases hN with h | h
        · first | exact .inl rfl | exact absurd h (by decide)
        · exact .inr ⟨by decide, h⟩
    · refine ⟨?_, ?_, ?_, ?_, fun _ => rfl⟩
      · exact (show ((68 : UInt8) ∈ (refHas ((17 : Nat) : Int) 0).data.toList) ↔ ((68 : UInt8) ∈ (isaForm ((17 : Nat) : Int)).2.1.data.toList) from by decide)
      · exact (show ((65 : UInt8) ∈ (refHas ((17 : Nat) : Int) 0).data.toList) ↔ ((65 : UInt8) ∈ (isaForm ((17 : Nat) : Int)).2.1.data.toList) from by decide)
      · exact (show ((66 : UInt8) ∈ (refHas ((17 : Nat) : Int) 0).data.toList) ↔ ((66 : UInt8) ∈ (isaForm ((17 : Nat) : Int)).2.1.data.toList) from by decide)
      · rcases hN with h | h
        · first | exact .inl rfl | exact absurd h (by decide)
        · exact .inr ⟨by decide, h⟩
    · refine ⟨?_, ?_, ?_, ?_, fun _ => rfl⟩
      · exact (show ((68 : UInt8) ∈ (refHas ((18 : Nat) : Int) 0).data.toList) ↔ ((68 : UInt8) ∈ (isaForm ((18 : Nat) : Int)).2.1.data.toList) from by decide)
      · exact (show ((65 : UInt8) ∈ (refHas ((18 : Nat) : Int) 0).data.toList) ↔ ((65 : UInt8) ∈ (isaForm ((18 : Nat) : Int)).2.1.data.toList) from by decide)
      · exact (show ((66 : UInt8) ∈ (refHas ((18 : Nat) : Int) 0).data.toList) ↔ ((66 : UInt8) ∈ (isaForm ((18 : Nat) : Int)).2.1.data.toList) from by decide)
      · rcases hN with h | h
        · first | exact .inl rfl | exact absurd h (by decide)
        · exact .inr ⟨by decide, h⟩
    · refine ⟨?_, ?_, ?_, ?_, fun _ => rfl⟩
      · exact (show ((68 : UInt8) ∈ (refHas ((19 : Nat) : Int) 0).data.toList) ↔ ((68 : UInt8) ∈ (isaForm ((19 : Nat) : Int)).2.1.data.toList) from by decide)
      · exact (show ((65 : UInt8) ∈ (refHas ((19 : Nat) : Int) 0).data.toList) ↔ ((65 : UInt8) ∈ (isaForm ((19 : Nat) : Int)).2.1.data.toList) from by decide)
      · exact (show ((66 : UInt8) ∈ (refHas ((19 : Nat) : Int) 0).data.toList) ↔ ((66 : UInt8) ∈ (isaForm ((19 : Nat) : Int)).2.1.data.toList) from by decide)
      · rcases hN with h | h
        · first | exact .inl rfl | exact absurd h (by decide)
        · exact .inr ⟨by decide, h⟩
    · refine ⟨?_, ?_, ?_, ?_, fun _ => rfl⟩
      · exact (show ((68 : UInt8) ∈ (refHas ((20 : Nat) : Int) 0).data.toList) ↔ ((68 : UInt8) ∈ (isaForm ((20 : Nat) : Int)).2.1.data.toList) from by decide)
      · exact (show ((65 : UInt8) ∈ (refHas ((20 : Nat) : Int) 0).data.toList) ↔ ((65 : UInt8) ∈ (isaForm ((20 : Nat) : Int)).2.1.data.toList) from by decide)
      · exact (show ((66 : UInt8) ∈ (refHas ((20 : Nat) : Int) 0).data.toList) ↔ ((66 : UInt8) ∈ (isaForm ((20 : Nat) : Int)).2.1.data.toList) from by decide)
      · rcases hN with h | h
        · first | exact .inl rfl | exact absurd h (by decide)
        · exact .inr ⟨by decide, h⟩
    · refine ⟨?_, ?_, ?_, ?_, fun _ => rfl⟩
      · exact (show ((68 : UInt8) ∈ (refHas ((21 : Nat) : Int) 0).data.toList) ↔ ((68 : UInt8) ∈ (isaForm ((21 : Nat) : Int)).2.1.data.toList) from by decide)
      · exact (show ((65 : UInt8) ∈ (refHas ((21 : Nat) : Int) 0).data.toList) ↔ ((65 : UInt8) ∈ (isaForm ((21 : Nat) : Int)).2.1.data.toList) from by decide)
      · exact (show ((66 : UInt8) ∈ (refHas ((21 : Nat) : Int) 0).data.toList) ↔ ((66 : UInt8) ∈ (isaForm ((21 : Nat) : Int)).2.1.data.toList) from by decide)
      · rcases hN with h | h
        · first | exact .inl rfl | exact absurd h (by decide)
        · exact .inr ⟨by decide, h⟩
    · refine ⟨?_, ?_, ?_, ?_, fun _ => rfl⟩
      · exact (show ((68 : UInt8) ∈ (refHas ((22 : Nat) : Int) 0).data.toList) ↔ ((68 : UInt8) ∈ (isaForm ((22 : Nat) : Int)).2.1.data.toList) from by decide)
      · exact (show ((65 : UInt8) ∈ (refHas ((22 : Nat) : Int) 0).data.toList) ↔ ((65 : UInt8) ∈ (isaForm ((22 : Nat) : Int)).2.1.data.toList) from by decide)
      · exact (show ((66 : UInt8) ∈ (refHas ((22 : Nat) : Int) 0).data.toList) ↔ ((66 : UInt8) ∈ (isaForm ((22 : Nat) : Int)).2.1.data.toList) from by decide)
      · rcases hN with h | h
        · first | exact .inl rfl | exact absurd h (by decide)
        · exact .inr ⟨by decide, h⟩
    · refine ⟨?_, ?_, ?_, ?_, fun _ => rfl⟩
      · exact (show ((68 : UInt8) ∈ (refHas ((23 : Nat) : Int) 0).data.toList) ↔ ((68 : UInt8) ∈ (isaForm ((23 : Nat) : Int)).2.1.data.toList) from by decide)
      · exact (show ((65 : UInt8) ∈ (refHas ((23 : Nat) : Int) 0).data.toList) ↔ ((65 : UInt8) ∈ (isaForm ((23 : Nat) : Int)).2.1.data.toList) from by decide)
      · exact (show ((66 : UInt8) ∈ (refHas ((23 : Nat) : Int) 0).data.toList) ↔ ((66 : UInt8) ∈ (isaForm ((23 : Nat) : Int)).2.1.data.toList) from by decide)
      · rcases hN with h | h
        · first | exact .inl rfl | exact absurd h (by decide)
        · exact .inr ⟨by decide, h⟩
theorem names_full : isaForms.all (fun x => !x.1.data.toList.isEmpty) = true := by decide
theorem form_full (kk : Nat) (h : kk < 25) : (isaForm (kk : Int)).1.data.toList ≠ [] := by
  have hl : kk < isaForms.length := h
  have := List.all_eq_true.1 names_full _ (List.getElem_mem hl)
  rw [form_name kk h, List.getD_eq_getElem?_getD, List.getElem?_eq_getElem hl]
  intro he
  simp only [Option.getD_some] at he
  rw [he] at this
  cases this
theorem splitSp_len : ∀ (l acc : List UInt8), 1 ≤ (splitSp acc l).length ∧ (splitSp acc l).length ≤ l.length + 1
  | [], acc => by simp [splitSp]
  | c :: l, acc => by
    rw [splitSp]
    split
    · have := splitSp_len l []
      simp only [List.length_cons]; omega
    · have := splitSp_len l (acc ++ [c])
      simp only [List.length_cons]; omega
theorem refSet_right {k D A B N : Int} (hr : isaRight k D A B N = true) (n : Int) (hn : n = 0 ∨ k = 24) : refSet (refHas k N).data.toList (isaThings k D A B N) 0 0 0 n = (D, A, B, N) := by
  obtain ⟨m1, m2, m3, m4, _⟩ := has_mem hr
  obtain ⟨_, _, _, hg⟩ := right_parts hr
  obtain ⟨z1, z2, z3⟩ := rightGo_zero _ D A B (of_regs k N).1 hg
  rw [← has_things hr, refSet_vals]
  have e1 : (if (68 : UInt8) ∈ (refHas k N).data.toList then D else 0) = D := by
    by_cases h : (68 : UInt8) ∈ (refHas k N).data.toList
    · rw [if_pos h]
    · rw [if_neg h, z1 (fun h2 => h (m1.2 h2))]
  have e2 : (if (65 : UInt8) ∈ (refHas k N).data.toList then A else 0) = A := by
    by_cases h : (65 : UInt8) ∈ (refHas k N).data.toList
    · rw [if_pos h]
    · rw [if_neg h, z2 (fun h2 => h (m2.2 h2))]
  have e3 : (if (66 : UInt8) ∈ (refHas k N).data.toList then B else 0) = B := by
    by_cases h : (66 : UInt8) ∈ (refHas k N).data.toList
    · rw [if_pos h]
    · rw [if_neg h, z3 (fun h2 => h (m3.2 h2))]
  rw [e1, e2, e3]
  rcases m4 with m4 | ⟨m4, m5⟩
  · rw [if_pos m4]
  · have hn0 : n = 0 := hn.elim id (fun h => absurd h m4)
    rw [hn0, m5]
    congr 3
    split <;> rfl
/-- the reference reads what isa.Read reads -/
theorem refRead_ev (s : ByteArray) (hs : s.size ≤ 200) : ∃ r, isa_Read.f s = some r ∧ Ev (fun n => camletref39_Read.f n s) r := by
  obtain ⟨ws, hw1, hw2, hw3⟩ := refWords s (by omega)
  have hwl : ws.length = (splitSp [] s.data.toList).length := by rw [← hw2, List.length_map]
  have hsl := splitSp_len s.data.toList []
  rw [data_len] at hsl
  have hpos : 0 < ws.length := by omega
  have hle : ws.length ≤ 2000 := by omega
  obtain ⟨ns, hn, hn2⟩ := refNums ws hw3 hpos
  have e0 : rdOf ByteArray.empty ws 0 = ws[0] := by
    unfold rdOf
    rw [List.getD_eq_getElem?_getD, show (0 : Int).toNat = 0 from rfl, List.getElem?_eq_getElem hpos]
    rfl
  by_cases hex : ∃ k D A B N, isaRight k D A B N = true ∧ isaShow k D A B N = s.data.toList
  · obtain ⟨k, D, A, B, N, hr, hsh⟩ := hex
    refine ⟨(k, D, A, B, N, true), by unfold isa_Read.f; rw [isaReadF_show hr hsh], ?_⟩
    have hsp := splitSp_show hr
    rw [hsh, ← hw2] at hsp
    have htl := things_len hr
    have hts := (things_span hr).1
    have hwl4 : ws.length = 1 + (isaThings k D A B N).length := by
      have := congrArg List.length hsp
      simp at this
      omega
    have hns : ns = isaThings k D A B N := hn2 _ (fun y hy => by have := hts y hy; omega) (by
      have := congrArg (List.drop 1) hsp
      rw [← List.map_drop, List.drop_succ_cons, List.drop_zero] at this
      exact this)
    have hw0 : rdOf ByteArray.empty ws 0 = (isaForm k).1 := by
      rw [e0, ba_eq]
      have := congrArg (fun l => l[0]?) hsp
      simp only [List.getElem?_map, List.getElem?_cons_zero] at this
      rw [List.getElem?_eq_getElem hpos] at this
      exact Option.some.inj this
    have hans : refAns s k D A B N = (k, D, A, B, N, true) := by
      unfold refAns isaText
      rw [if_pos hr, if_pos hsh]
    have hset := refSet_right hr
    rw [← hns] at hset
    obtain ⟨kk, rfl, hk⟩ := right_kind hr
    have hne : s.toList ≠ [] := by
      rw [ByteArray.toList_eq, ← hsh]
      unfold isaShow
      rw [of_name]
      intro h
      have h2 := (List.append_eq_nil_iff.1 h).1
      exact form_full kk hk h2
    have hkind := refKind_hit kk hk 25 0 (-1) rfl (Nat.zero_le _)
    unfold camletref39_Read.f
    refine Ev.bind hw1 (Ev.neg hne ?_)
    have c4 : decide ((ws.length : Int) > 4) = false := decide_eq_false (by omega)
    rw [c4]
    refine Ev.step (f := fun n => camletref39_Read.l0 n s ws ((0 : Nat) : Int) (-1) 0 0 0 0) (fun n => by rw [camletref39_Read.j0, if_neg (by decide)]; rfl) (refLoop0 hpos 25 0 (-1) rfl ?_)
    rw [hw0, hkind]
    by_cases h24 : (kk : Int) = 24
    · refine Ev.pos h24 ?_
      have hl1 : 0 < ns.length := by
        rw [hns]
        unfold isaThings
        rw [if_pos h24]
        simp
      have c1 : decide ((ws.length : Int) > 1) = true := decide_eq_true (by have := hn.1; omega)
      have c2 : 1 < (ws.length : Int) := by have := hn.1; omega
      rw [c1]
      have hev := hn.2 0 hl1
      have hn0 : ns[0] = N := by
        have : isaThings (kk : Int) D A B N = N :: regVals D A B (isaOf (kk : Int) N).2.1.data.toList := by unfold isaThings; rw [if_pos h24]
        simp only [hns, this, List.getElem_cons_zero]
      rw [hn0, show (((0 + 1 : Nat)) : Int) = 1 from rfl] at hev
      refine Ev.step (fun n => by rw [camletref39_Read.j2, if_pos rfl, if_pos c2]) (Ev.bind hev ?_)
      have h3 := refRead_j3 (s := s) hn hle (kk : Int) 0 0 0 N
      rw [hset N (.inr h24)] at h3
      dsimp only at h3
      rw [hans] at h3
      exact h3
    · refine Ev.neg h24 (Ev.step (fun n => by rw [camletref39_Read.j2, if_neg (by decide)]) ?_)
      have h3 := refRead_j3 (s := s) hn hle (kk : Int) 0 0 0 0
      rw [(has_mem hr).2.2.2.2 h24, hset 0 (.inl rfl)] at h3
      dsimp only at h3
      rw [hans] at h3
      exact h3
  · have hno : ∀ k D A B N, isaRight k D A B N = true → isaShow k D A B N ≠ s.data.toList := fun k D A B N hr he => hex ⟨k, D, A, B, N, hr, he⟩
    refine ⟨(0, 0, 0, 0, 0, false), by unfold isa_Read.f; rw [isaReadF_none hno], ?_⟩
    have hz : Ev (fun n => camletref39_Read.j0 n s ws true) (0, 0, 0, 0, 0, false) := Ev.step (fun n => by rw [camletref39_Read.j0, if_pos rfl]) (Ev.now _)
    unfold camletref39_Read.f
    refine Ev.bind hw1 ?_
    by_cases hne : s.toList = []
    · exact Ev.pos hne hz
    refine Ev.neg hne ?_
    rw [ByteArray.toList_eq] at hne
    by_cases c4 : (ws.length : Int) > 4
    · rw [decide_eq_true c4]; exact hz
    rw [decide_eq_false c4]
    have hj3 : ∀ k D A B N, Ev (fun n => camletref39_Read.j3 n s ws k D A B N) (0, 0, 0, 0, 0, false) := fun k D A B N => by
      have h3 := refRead_j3 (s := s) hn hle k D A B N
      rw [refAns_no hne hno] at h3
      exact h3
    refine Ev.step (f := fun n => camletref39_Read.l0 n s ws ((0 : Nat) : Int) (-1) 0 0 0 0) (fun n => by rw [camletref39_Read.j0, if_neg (by decide)]; rfl) (refLoop0 hpos 25 0 (-1) rfl ?_)
    generalize refKind (rdOf ByteArray.empty ws 0) 25 0 (-1) = K
    have hj2f : Ev (fun n => camletref39_Read.j2 n s ws false K 0 0 0 0) (0, 0, 0, 0, 0, false) := Ev.step (fun n => by rw [camletref39_Read.j2, if_neg (by decide)]) (hj3 K 0 0 0 0)
    by_cases h24 : K = 24
    · refine Ev.pos h24 ?_
      by_cases c1 : (ws.length : Int) > 1
      · rw [decide_eq_true c1]
        have hl1 : 0 < ns.length := by have := hn.1; omega
        have c2 : 1 < (ws.length : Int) := c1
        have hev := hn.2 0 hl1
        rw [show (((0 + 1 : Nat)) : Int) = 1 from rfl] at hev
        exact Ev.step (fun n => by rw [camletref39_Read.j2, if_pos rfl, if_pos c2]) (Ev.bind hev (hj3 K 0 0 0 _))
      · rw [decide_eq_false c1]; exact hj2f
    · exact Ev.neg h24 hj2f
end Go.Proofs.YtcdeekfgdmckmaaDoor.Q

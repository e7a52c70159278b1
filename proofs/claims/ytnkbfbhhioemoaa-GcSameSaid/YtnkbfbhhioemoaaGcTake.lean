/- gc: a value is told of a word of the copied memory as of the word that was there. -/
import Derived.Test.YtnkbfbhhioemoaaQx0
import Derived.Test.YtnkbfbhhioemoaaQx6
import Derived.Test.YtnkbfbhhioemoaaGcBlk
import Derived.Test.YtnkbfbhhioemoaaGcClosed
import Derived.Test.YtnkbfbhhioemoaaGcModel
import Derived.Test.YtnkbfbhhioemoaaGcRef
import Derived.Test.YtnkbfbhhioemoaaGcSim
import Derived.Test.YtnkbfbhhioemoaaGcSim2
import Derived.Test.YtnkbfbhhioemoaaHeapPlain
import Derived.Test.YtnkbfbhhioemoaaHrefTk
import Derived.Test.YtnkbfbhhioemoaaTakeM
--@needs XGcSim2
--@needs XGcClosed
--@needs XTakeM
namespace Go.Proofs.Ytnkbfbhhioemoaa.Q
open Go.RowKit Go.Proofs.YtnkbfbhhioemoaaW.PrintWords Go.Proofs.YtnkbfbhhioemoaaW.PrintLast Go.Proofs.YtnkbfbhhioemoaaW.PrintMore
attribute [local go_sem] max2_int min2_int max_two min_two max_three min_three max_four min_four   -- for this text's walks alone
set_option linter.unusedVariables false
set_option linter.unusedSimpArgs false

theorem gMeet_four {F T : Int} {blk : Int → Int} {l l' : List Int} {w : Int} (h : gMeet F T blk l w = some l') (hl : gLeads F T w = true) : w % 4 = 0 := by
  unfold gMeet at h
  rw [if_neg (by rw [hl]; decide)] at h
  by_cases h2 : w % 4 ≠ 0
  · rw [if_pos h2] at h; cases h
  · omega
theorem gFold_four {F T : Int} {blk : Int → Int} : ∀ {r l l' : List Int}, gFold F T blk l r = some l' → ∀ w ∈ r, gLeads F T w = true → w % 4 = 0
  | [], l, l', h => fun w hw => by simp at hw
  | w :: r, l, l', h => by
    rw [gFold] at h
    obtain ⟨l1, h1, h2⟩ := Option.bind_eq_some_iff.1 h
    intro x hx hl
    rcases List.mem_cons.1 hx with rfl | hx
    · exact gMeet_four h1 hl
    · exact gFold_four h2 x hx hl
theorem gLoop_four {m : List Int} {F T : Int} {blk : Int → Int} : ∀ (k i : Nat) (l l' : List Int), gLoop m F T blk k i l = some (some l') → (∀ (j : Nat) (h : j < l.length), j < i → ∀ x ∈ gKids m blk l[j], gLeads F T x = true → x % 4 = 0) → ∀ a ∈ l', ∀ x ∈ gKids m blk a, gLeads F T x = true → x % 4 = 0
  | 0, i, l, l', h, _ => by simp [gLoop] at h
  | k + 1, i, l, l', h, hp => by
    rw [gLoop] at h
    by_cases hl : i < l.length
    · rw [dif_pos hl] at h
      cases e : gFold F T blk l (gKids m blk l[i]) with
      | none => rw [e] at h; simp at h
      | some l1 =>
        rw [e] at h
        obtain ⟨q, hq⟩ := gFold_len _ _ _ e
        exact gLoop_four k (i + 1) l1 l' h (by
          intro j hj hji x hx hlx
          have hjl : j < l.length := by omega
          have he : l1[j] = l[j] := by subst hq; exact List.getElem_append_left hjl
          rw [he] at hx
          by_cases e2 : j = i
          · subst e2; exact gFold_four e x hx hlx
          · exact hp j hjl (by omega) x hx hlx)
    · rw [dif_neg hl] at h
      injection h with h; injection h with h; subst h
      intro a ha x hx hlx
      obtain ⟨j, hj, rfl⟩ := List.getElem_of_mem ha
      exact hp j hj (by omega) x hx hlx
theorem gReach_four {m : List Int} {F T : Int} {blk : Int → Int} (hb : BlkOk F T blk) (hFT : F ≤ T) (hF : 0 ≤ F) (hT : T ≤ m.length) {roots l : List Int} (h : gReach m F T blk roots = some l) : (∀ x ∈ roots, gLeads F T x = true → x % 4 = 0) ∧ (∀ a ∈ l, ∀ x ∈ gKids m blk a, gLeads F T x = true → x % 4 = 0) := by
  unfold gReach at h
  obtain ⟨l1, h1, h2⟩ := Option.bind_eq_some_iff.1 h
  have hi := gFold_inv hb _ _ _ (GInv.nil F T blk) h1
  obtain ⟨r, hr⟩ := gLoop_ends (m := m) hb hFT (m.length + 1) 0 l1 hi (by omega) (by omega)
  rw [hr] at h2
  have h2' : r = some l := h2
  subst h2'
  exact ⟨gFold_four h1, gLoop_four _ _ _ _ hr (fun j _ hj => by omega)⟩
/-! ### a value that was taken is small, and the same as itself -/
def TB : Nat → S38 → Prop
  | 0, _ => False
  | n + 1, x => x.f2.length ≤ 1000000 ∧ ∀ y ∈ x.f2, TB n y
theorem TB.leaf (n : Nat) (a b : Int) : TB (n + 1) ⟨a, b, []⟩ := ⟨by simp, fun y hy => by simp at hy⟩
theorem kidsV_TB {f : Int × List Int → Int → (S38 × Int) × (Int × List Int)} {n : Nat} (hf : ∀ s x, TB n (f s x).1.1) : ∀ (l : List Int) (s : Int × List Int) (acc : List S38), (∀ y ∈ acc, TB n y) → (∀ y ∈ (kidsV f s l acc).1.1, TB n y) ∧ (kidsV f s l acc).1.1.length ≤ acc.length + l.length
  | [], s, acc, h => ⟨h, by simp [kidsV]⟩
  | x :: r, s, acc, h => by
    rw [kidsV]
    split
    · have := kidsV_TB hf r (f s x).2 (acc ++ [(f s x).1.1]) (fun y hy => (List.mem_append.1 hy).elim (h y) (fun hy => by obtain rfl := List.mem_singleton.1 hy; exact hf s x))
      refine ⟨this.1, ?_⟩
      have h2 := this.2
      simp only [List.length_append, List.length_cons, List.length_nil] at h2 ⊢
      omega
    · exact ⟨fun y hy => by simp at hy, by simp⟩
theorem takeV_TB (m : List Int) (hm : m.length ≤ 1000000) : ∀ (n : Nat) (s : Int × List Int) (w : Int), TB (n + 1) (takeV m n s w).1.1
  | 0, s, w => TB.leaf 0 0 0
  | n + 1, s, w => by
    rw [takeV]
    split
    · exact TB.leaf _ _ _
    · split
      · exact TB.leaf _ _ _
      · split
        · exact TB.leaf _ _ _
        · split
          · exact TB.leaf _ _ _
          · split
            · exact TB.leaf _ _ _
            · have hk := kidsV_TB (takeV_TB m hm n) (kidsOf m (w / 4)) (s.1 - 1, s.2) [] (by simp)
              have hl : (kidsOf m (w / 4)).length ≤ m.length := by unfold kidsOf; rw [List.length_take, List.length_drop]; omega
              split
              · refine ⟨?_, hk.1⟩
                have h2 : (kidsV (takeV m n) (s.1 - 1, s.2) (kidsOf m (w / 4)) []).1.1.length ≤ 0 + (kidsOf m (w / 4)).length := hk.2
                show (kidsV (takeV m n) (s.1 - 1, s.2) (kidsOf m (w / 4)) []).1.1.length ≤ 1000000
                omega
              · exact TB.leaf _ _ _
theorem same_refl : ∀ (n : Nat) (x : S38), TB n x → Ev (fun k => camletref17_Same.f k x.f0 x.f1 x.f2 x.f0 x.f1 x.f2) true
  | 0, x, h => h.elim
  | n + 1, x, h => by
    obtain ⟨hl, hk⟩ := h
    have go : ∀ (d i : Nat), i + d = x.f2.length → Ev (fun k => camletref17_Same.l0 k (i : Int) x.f0 x.f1 x.f2 x.f0 x.f1 x.f2) true := by
      intro d
      induction d with
      | zero =>
        intro i hi
        exact Ev.some 1 (fun k => by rw [camletref17_Same.l0, if_neg (by omega)])
      | succ d ih =>
        intro i hi
        have hlt : i < x.f2.length := by omega
        have hw : wrap64 ((i : Int) + 1) = ((i + 1 : Nat) : Int) := by unfold wrap64; omega
        have he : rd_T38 x.f2 (i : Int) = x.f2[i] := by
          unfold rd_T38
          rw [Int.toNat_natCast, List.getD_eq_getElem?_getD, List.getElem?_eq_getElem hlt]
          rfl
        have h1 := same_refl n x.f2[i] (hk _ (List.getElem_mem hlt))
        have h2 := ih (i + 1) (by omega)
        obtain ⟨m1, e1⟩ := h1
        obtain ⟨m2, e2⟩ := h2
        refine ⟨m1 + m2 + 1, fun k hk2 => ?_⟩
        obtain ⟨j, rfl⟩ : ∃ j, k = j + 1 := ⟨k - 1, by omega⟩
        have a1 : camletref17_Same.f j _ _ _ _ _ _ = _ := e1 j (by omega)
        have a2 : camletref17_Same.l0 j _ _ _ _ _ _ _ = _ := e2 j (by omega)
        show camletref17_Same.l0 (j + 1) _ _ _ _ _ _ _ = _
        rw [camletref17_Same.l0, if_pos (by omega), if_pos (by omega), if_pos (by omega), he, a1, Option.bind_some, if_pos rfl, hw, a2]
    obtain ⟨m1, e1⟩ := go x.f2.length 0 (by omega)
    refine ⟨m1 + 2, fun k hk2 => ?_⟩
    obtain ⟨j, rfl⟩ : ∃ j, k = j + 2 := ⟨k - 2, by omega⟩
    have a1 : camletref17_Same.l0 j _ _ _ _ _ _ _ = _ := e1 j (by omega)
    show camletref17_Same.f (j + 1 + 1) _ _ _ _ _ _ = _
    rw [camletref17_Same.f, if_pos rfl, if_pos rfl, show ((x.f2.length : Int) != (x.f2.length : Int)) = false by simp, camletref17_Same.j0, if_neg (by decide)]
    exact a1
/-! ### both memories -/
theorem gt_parts {m l : List Int} {F T t : Int} (H : GCop m F T t l) {b : Int} (hb : b ∈ l) : splOk (rd m b) ∧ gBlk m T b = 1 + rd m b / 16384 ∧ ¬ (rd m b % 16 / 2 = 1 ∧ rd m (b + 1) % 2 = 0) := by
  have hm := H.inv.mem b hb
  have hb1 : gBlk m T b = if splOk (rd m b) ∧ b + 1 + rd m b / 16384 ≤ T ∧ ¬ (rd m b % 16 / 2 = 1 ∧ rd m (b + 1) % 2 = 0) then 1 + rd m b / 16384 else 0 := rfl
  by_cases hc : splOk (rd m b) ∧ b + 1 + rd m b / 16384 ≤ T ∧ ¬ (rd m b % 16 / 2 = 1 ∧ rd m (b + 1) % 2 = 0)
  · rw [if_pos hc] at hb1
    exact ⟨hc.1, hb1, hc.2.2⟩
  · rw [if_neg hc] at hb1
    omega
theorem gt_spl {w : Int} (h : splOk w) : splV w = (w % 16 / 2, w / 16 % 1024, w / 16384, true) := if_pos h
/-- a word of what is copied -/
def gtW (F T : Int) (l : List Int) (x : Int) : Prop := x % 2 = 1 ∨ (gLeads F T x = true ∧ x % 4 = 0 ∧ x / 4 ∈ l)
section
variable {m : List Int} {F T t : Int} {l : List Int} (H : GCop m F T t l)
include H
theorem GCop.tk_blk {b : Int} (hb : b ∈ l) : blkB m b = true ∧ blkB (gNew m F T t l) (gPos m T t l b) = true ∧ splV (rd m b) = (rd m b % 16 / 2, rd m b / 16 % 1024, rd m b / 16384, true) ∧ splV (rd (gNew m F T t l) (gPos m T t l b)) = splV (rd m b) ∧ gBlk m T b = 1 + rd m b / 16384 ∧ 0 ≤ b ∧ b + rd m b / 16384 < (m.length : Int) ∧ 0 ≤ gPos m T t l b ∧ gPos m T t l b + rd m b / 16384 < (m.length : Int) ∧ 1 ≤ rd m b / 16384 ∧ (rd m b % 16 / 2 = 1 → rd m (b + 1) % 2 = 1 ∧ rd (gNew m F T t l) (gPos m T t l b + 1) = rd m (b + 1)) := by
  have hs := H.pos_span hb
  have ht0 := H.t0
  have ht1 := H.t1
  have hF := H.hF
  have hT := H.hT
  have hlen := H.len
  have hnl := H.new_len
  have hh := H.new_head hb
  obtain ⟨h1, h2, h3⟩ := gt_parts H hb
  have hm := H.inv.mem b hb
  have hsp := gt_spl h1
  unfold gEnd at hs
  have hk : rd m b % 16 / 2 = 1 → rd m (b + 1) % 2 = 1 ∧ rd (gNew m F T t l) (gPos m T t l b + 1) = rd m (b + 1) := by
    intro hk
    have ho : rd m (b + 1) % 2 = 1 := by
      have : ¬ rd m (b + 1) % 2 = 0 := fun h => h3 ⟨hk, h⟩
      omega
    have hkid := H.new_kid hb 0 (by omega)
    simp only [Int.natCast_zero, Int.zero_add] at hkid
    exact ⟨ho, by rw [hkid.1, H.chg_odd ho]⟩
  have hv := rd_val H.vals (b + 1)
  refine ⟨?_, ?_, hsp, by rw [hh], h2, by omega, by omega, by omega, by omega, by omega, hk⟩
  · unfold blkB
    rw [hsp]
    simp only [Bool.and_eq_true, decide_eq_true_eq, Bool.or_eq_true, Bool.not_eq_true', decide_eq_false_iff_not, beq_iff_eq]
    refine ⟨by omega, by omega, trivial, by omega, ?_⟩
    by_cases hk1 : rd m b % 16 / 2 = 1
    · exact .inr (by rw [Int.tmod_eq_emod_of_nonneg hv.1]; exact (hk hk1).1)
    · exact .inl hk1
  · unfold blkB
    rw [hh, hsp, hnl]
    simp only [Bool.and_eq_true, decide_eq_true_eq, Bool.or_eq_true, Bool.not_eq_true', decide_eq_false_iff_not, beq_iff_eq]
    refine ⟨by omega, by omega, trivial, by omega, ?_⟩
    by_cases hk1 : rd m b % 16 / 2 = 1
    · refine .inr ?_
      rw [(hk hk1).2, Int.tmod_eq_emod_of_nonneg hv.1]
      exact (hk hk1).1
    · exact .inl hk1
theorem GCop.tk_kids {b : Int} (hb : b ∈ l) : kidsOf (gNew m F T t l) (gPos m T t l b) = (kidsOf m b).map (gChg m F T t l) ∧ ∀ x ∈ kidsOf m b, x ∈ gKids m (gBlk m T) b := by
  obtain ⟨h1, h2, h3, h4, h5, h6, h7, h8, h9, h10, _⟩ := H.tk_blk hb
  have hnl := H.new_len
  have l1 := kidsOf_len m b h6 (by rw [h3]; exact h7) (by rw [h3]; exact h10)
  have l2 := kidsOf_len (gNew m F T t l) (gPos m T t l b) h8 (by rw [h4, h3, hnl]; exact h9) (by rw [h4, h3]; exact h10)
  rw [h3] at l1
  rw [h4, h3] at l2
  dsimp only at l1 l2
  have f1 : kidsFrom m b = if rd m b % 16 / 2 = 1 then b + 2 else b + 1 := by unfold kidsFrom; rw [h3]
  have f2 : kidsFrom (gNew m F T t l) (gPos m T t l b) = if rd m b % 16 / 2 = 1 then gPos m T t l b + 2 else gPos m T t l b + 1 := by unfold kidsFrom; rw [h4, h3]
  have hll : (kidsOf (gNew m F T t l) (gPos m T t l b)).length = (kidsOf m b).length := by
    rw [f1] at l1
    rw [f2] at l2
    split at l1 <;> rename_i hc
    · rw [if_pos hc] at l2; omega
    · rw [if_neg hc] at l2; omega
  have get : ∀ (k : Nat) (hk : k < (kidsOf m b).length), (kidsOf m b)[k] = rd m (kidsFrom m b + k) := fun k hk => by
    have h := kidsOf_at m b h6 (by rw [h3]; exact h7) (by rw [h3]; exact h10) k hk
    rw [List.drop_eq_getElem_cons hk] at h
    exact (List.cons.inj h).1
  have get2 : ∀ (k : Nat) (hk : k < (kidsOf (gNew m F T t l) (gPos m T t l b)).length), (kidsOf (gNew m F T t l) (gPos m T t l b))[k] = rd (gNew m F T t l) (kidsFrom (gNew m F T t l) (gPos m T t l b) + k) := fun k hk => by
    have h := kidsOf_at (gNew m F T t l) (gPos m T t l b) h8 (by rw [h4, h3, hnl]; exact h9) (by rw [h4, h3]; exact h10) k hk
    rw [List.drop_eq_getElem_cons hk] at h
    exact (List.cons.inj h).1
  have each : ∀ (k : Nat) (hk : k < (kidsOf m b).length), rd (gNew m F T t l) (kidsFrom (gNew m F T t l) (gPos m T t l b) + k) = gChg m F T t l (rd m (kidsFrom m b + k)) ∧ rd m (kidsFrom m b + k) ∈ gKids m (gBlk m T) b := by
    intro k hk
    rw [f1, f2]
    by_cases hc : rd m b % 16 / 2 = 1
    · rw [if_pos hc, if_pos hc]
      rw [f1, if_pos hc] at l1
      have := H.new_kid hb (k + 1) (by omega)
      rw [show gPos m T t l b + 2 + (k : Int) = gPos m T t l b + (((k + 1 : Nat) : Int) + 1) by omega, show b + 2 + (k : Int) = b + (((k + 1 : Nat) : Int) + 1) by omega]
      exact this
    · rw [if_neg hc, if_neg hc]
      rw [f1, if_neg hc] at l1
      have := H.new_kid hb k (by omega)
      rw [show gPos m T t l b + 1 + (k : Int) = gPos m T t l b + ((k : Int) + 1) by omega, show b + 1 + (k : Int) = b + ((k : Int) + 1) by omega]
      exact this
  refine ⟨?_, ?_⟩
  · apply List.ext_getElem
    · rw [List.length_map]; exact hll
    · intro k hk1 hk2
      rw [List.getElem_map, get2 k hk1, get k (by rw [← hll]; exact hk1)]
      exact (each k (by rw [← hll]; exact hk1)).1
  · intro x hx
    obtain ⟨k, hk, rfl⟩ := List.getElem_of_mem hx
    rw [get k hk]
    exact (each k hk).2
end
def gtS (m : List Int) (T t : Int) (l : List Int) (s s' : Int × List Int) : Prop := s'.1 = s.1 ∧ s'.2 = s.2.map (gPos m T t l) ∧ ∀ c ∈ s.2, c ∈ l
theorem gt_find {f : Int → Int} {a : Int} : ∀ (cs : List Int), (∀ c ∈ cs, f c = f a → c = a) → (cs.map f).findIdx? (fun x => x == f a) = cs.findIdx? (fun x => x == a)
  | [], _ => rfl
  | c :: cs, h => by
    have ih := gt_find cs (fun x hx => h x (List.mem_cons_of_mem _ hx))
    rw [List.map_cons, List.findIdx?_cons, List.findIdx?_cons, ih]
    by_cases e : c = a
    · subst e; simp
    · have e2 : ¬ f c = f a := fun h2 => e (h c (List.mem_cons_self) h2)
      rw [show (f c == f a) = false from beq_eq_false_iff_ne.mpr e2, show (c == a) = false from beq_eq_false_iff_ne.mpr e]
section
variable {m : List Int} {F T t : Int} {l : List Int} (H : GCop m F T t l)
include H
theorem GCop.tk_cell {cs : List Int} {b : Int} (hcs : ∀ c ∈ cs, c ∈ l) (hb : b ∈ l) : (cellV (cs.map (gPos m T t l)) (gPos m T t l b)).1 = (cellV cs b).1 ∧ (cellV (cs.map (gPos m T t l)) (gPos m T t l b)).2 = (cellV cs b).2.map (gPos m T t l) ∧ ∀ c ∈ (cellV cs b).2, c ∈ l := by
  have hf := gt_find (f := gPos m T t l) (a := b) cs (fun c hc he => H.pos_inj (hcs c hc) hb he)
  unfold cellV
  rw [hf]
  cases cs.findIdx? (fun x => x == b) with
  | some i => exact ⟨rfl, rfl, hcs⟩
  | none =>
    refine ⟨by simp, by simp, fun c hc => ?_⟩
    rcases List.mem_append.1 hc with h | h
    · exact hcs c h
    · obtain rfl := List.mem_singleton.1 h; exact hb
theorem GCop.tk_sim (h4 : ∀ b ∈ l, ∀ x ∈ gKids m (gBlk m T) b, gtW F T l x) : ∀ (n : Nat) (s s' : Int × List Int) (x : Int), gtS m T t l s s' → gtW F T l x →
    (takeV (gNew m F T t l) n s' (gChg m F T t l x)).1 = (takeV m n s x).1 ∧ gtS m T t l (takeV m n s x).2 (takeV (gNew m F T t l) n s' (gChg m F T t l x)).2
  | 0, s, s', x, hs, hx => ⟨rfl, hs⟩
  | n + 1, s, s', x, hs, hx => by
    have ih := GCop.tk_sim h4 n
    obtain ⟨left, cs⟩ := s
    obtain ⟨left', cs'⟩ := s'
    obtain ⟨e1, e2, hcs⟩ := hs
    dsimp only at e1 e2 hcs
    replace e1 := e1.symm
    subst e1 e2
    rw [takeV, takeV]
    by_cases hl : left < 1
    · rw [if_pos hl, if_pos hl]; exact ⟨rfl, rfl, rfl, hcs⟩
    rw [if_neg hl, if_neg hl]
    rcases hx with ho | ⟨hld, hx4, hb⟩
    · have e := H.chg_odd ho
      rw [e, if_pos ho, if_pos ho]
      exact ⟨rfl, rfl, rfl, hcs⟩
    · have e := H.chg_leads hld
      have e4 : gChg m F T t l x / 4 = gPos m T t l (x / 4) := by rw [e]; omega
      obtain ⟨h1, h2, h3, h4', h5, h6, h7, h8, h9, h10, h11⟩ := H.tk_blk hb
      obtain ⟨k1, k2⟩ := H.tk_kids hb
      rw [if_neg (show ¬ gChg m F T t l x % 2 = 1 by rw [e]; omega), if_neg (show ¬ gChg m F T t l x % 4 ≠ 0 by rw [e]; omega), e4, if_neg (show ¬ blkB (gNew m F T t l) (gPos m T t l (x / 4)) = false by rw [h2]; decide), if_neg (show ¬ x % 2 = 1 by omega), if_neg (show ¬ x % 4 ≠ 0 by omega), if_neg (show ¬ blkB m (x / 4) = false by rw [h1]; decide), h4']
      by_cases hk : (splV (rd m (x / 4))).1 = 2
      · rw [if_pos hk, if_pos hk]
        obtain ⟨c1, c2, c3⟩ := H.tk_cell hcs hb
        exact ⟨by rw [c1], rfl, c2, c3⟩
      rw [if_neg hk, if_neg hk, k1]
      have kid : ∀ (ws : List Int) (s s' : Int × List Int) (acc : List S38), gtS m T t l s s' → (∀ x ∈ ws, gtW F T l x) → (kidsV (takeV (gNew m F T t l) n) s' (ws.map (gChg m F T t l)) acc).1 = (kidsV (takeV m n) s ws acc).1 ∧ gtS m T t l (kidsV (takeV m n) s ws acc).2 (kidsV (takeV (gNew m F T t l) n) s' (ws.map (gChg m F T t l)) acc).2 := by
        intro ws
        induction ws with
        | nil => intro s s' acc hs _; exact ⟨rfl, hs⟩
        | cons w r ihw =>
          intro s s' acc hs hws
          obtain ⟨a1, a2⟩ := ih s s' w hs (hws w (List.mem_cons_self))
          rw [List.map_cons, kidsV, kidsV, a1]
          by_cases h0 : (takeV m n s w).1.2 = 0
          · rw [if_pos h0, if_pos h0]
            exact ihw _ _ _ a2 (fun y hy => hws y (List.mem_cons_of_mem _ hy))
          · rw [if_neg h0, if_neg h0]
            exact ⟨rfl, a2⟩
      obtain ⟨q1, q2⟩ := kid (kidsOf m (x / 4)) (left - 1, cs) (left - 1, cs.map (gPos m T t l)) [] ⟨rfl, rfl, hcs⟩ (fun y hy => h4 _ hb y (k2 y hy))
      have ht : topV (gNew m F T t l) (gPos m T t l (x / 4)) = topV m (x / 4) := by
        unfold topV
        rw [h4']
        by_cases hk1 : (splV (rd m (x / 4))).1 = 1
        · rw [if_pos hk1, if_pos hk1]
          rw [h3] at hk1
          rw [(h11 hk1).2]
        · rw [if_neg hk1, if_neg hk1]
      rw [q1, ht]
      by_cases hz : (kidsV (takeV m n) (left - 1, cs) (kidsOf m (x / 4)) []).1.2 = 0
      · rw [if_pos hz, if_pos hz]; exact ⟨rfl, q2⟩
      · rw [if_neg hz, if_neg hz]; exact ⟨rfl, q2⟩
end
end Go.Proofs.Ytnkbfbhhioemoaa.Q

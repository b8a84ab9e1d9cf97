/- what of V1 V2 V2b V3 VQ VA VB VC VD VE VF VG VH VI VJ VK VL VR VS VU VV VT VW VX VY VAA VM VN VTB VTC VTD VTE W1 W2 W3 W4 D0 DB DA DC DD DE DF DG DH DI DJ DK DL DM DN DO DP EA EB EC ED EE EF EFa EFb EFc EFd EFe EG EH EJ EI EM EN EO EP EQ is leant on -/
import Derived.Test.YthgnbbbdcebjhaaGreatLOb
set_option linter.unusedVariables false
set_option linter.unusedSimpArgs false
set_option maxRecDepth 100000
set_option maxHeartbeats 4000000
namespace Go.Proofs.YthgnbbbdcebjhaaGreat
open Go Go.RowKit Go.BigFrame
def Tr.preF (T : Tr) : Nat → Int → List Int
  | 0, id => [id]
  | f + 1, id => id :: (T.kidsOf id).flatMap (T.preF f)
def Tr.pre (T : Tr) (id : Int) : List Int := T.preF 50 id
def Tr.allOf (T : Tr) (id : Int) : List Int := match T.get? id with | none => [] | some _ => T.pre id
theorem flatMap_congr' {α β : Type} {l : List α} {f g : α → List β} (h : ∀ x ∈ l, f x = g x) : l.flatMap f = l.flatMap g := by
  induction l with
  | nil => rfl
  | cons a l ih => rw [List.flatMap_cons, List.flatMap_cons, h a (by simp), ih fun x hx => h x (by simp [hx])]
section
variable {T : Tr} {d : Nat → Nat}
theorem WF.pre_more (hw : WF T d) : ∀ (f g : Nat) (id : Int), 42 ≤ T.rank d id + f → 42 ≤ T.rank d id + g → T.preF f id = T.preF g id := by
  intro f
  induction f with
  | zero => intro g id h; have := hw.rank_le id; omega
  | succ f ih =>
    intro g id h1 h2
    cases g with
    | zero => have := hw.rank_le id; omega
    | succ g =>
      simp only [Tr.preF]
      congr 1
      refine flatMap_congr' fun k hk => ?_
      obtain ⟨_, _, h3, _⟩ := hw.kid_rank hk
      exact ih g k (by omega) (by omega)
theorem WF.pre_step (hw : WF T d) (id : Int) : T.pre id = id :: (T.kidsOf id).flatMap T.pre := by
  show id :: (T.kidsOf id).flatMap (T.preF 49) = _
  congr 1
  exact flatMap_congr' fun k hk => hw.pre_more 49 50 k (by obtain ⟨_, _, h3, _⟩ := hw.kid_rank hk; omega) (by omega)
theorem WF.rise (hw : WF T d) (P : Int → Prop) (h : ∀ id, (∀ k ∈ T.kidsOf id, P k) → P id) : ∀ id, P id := by
  have key : ∀ (n : Nat) (id : Int), 42 ≤ T.rank d id + n → P id := by
    intro n
    induction n with
    | zero => intro id h1; have := hw.rank_le id; omega
    | succ n ih =>
      intro id h1
      refine h id fun k hk => ?_
      obtain ⟨_, _, h3, _⟩ := hw.kid_rank hk
      exact ih k (by omega)
  exact fun id => key 42 id (by omega)
def IsChain (T : Tr) (l : List Int) (z : Int) : Prop := ∀ (i : Nat) (x : Int), l[i]? = some x → T.next x = (l[i + 1]?).getD z
theorem IsChain.append {l1 l2 : List Int} {y z : Int} (h1 : IsChain T l1 y) (h2 : IsChain T l2 z) (hy : l2.head? = some y) : IsChain T (l1 ++ l2) z := by
  intro i x hx
  by_cases hi : i < l1.length
  · rw [List.getElem?_append_left hi] at hx
    rw [h1 i x hx]
    by_cases hi2 : i + 1 < l1.length
    · rw [List.getElem?_append_left hi2]
      rw [List.getElem?_eq_getElem hi2]; rfl
    · rw [List.getElem?_append_right (by omega), show i + 1 - l1.length = 0 by omega, ← List.head?_eq_getElem?, hy, List.getElem?_eq_none (by omega)]; rfl
  · rw [List.getElem?_append_right (by omega)] at hx
    rw [h2 _ x hx, List.getElem?_append_right (by omega), show i - l1.length + 1 = i + 1 - l1.length by omega]
theorem WF.behind_step (hw : WF T d) (id : Int) : T.behind id = if 0 ≤ T.up id then (T.sib id).getD (T.behind (T.up id)) else -1 := hw.goUp_step (fun x r => (T.sib x).getD r) (fun _ => -1) id
theorem WF.behind_kid (hw : WF T d) {id k : Int} {j : Nat} (h : (T.kidsOf id)[j]? = some k) : T.behind k = ((T.kidsOf id)[j + 1]?).getD (T.behind id) := by
  obtain ⟨h1, h2, h3⟩ := hw.kid_idx h
  rw [hw.behind_step k, h1, if_pos h3]
  have : T.sib k = (T.kidsOf id)[j + 1]? := by unfold Tr.sib; rw [h1, h2, Int.toNat_natCast]
  rw [this]
theorem WF.pre_head (hw : WF T d) (id : Int) : (T.pre id).head? = some id := by rw [hw.pre_step]; rfl
theorem WF.chain (hw : WF T d) : ∀ id, IsChain T (T.pre id) (T.behind id) := by
  refine hw.rise _ fun id ih => ?_
  have key : ∀ (ks : List Int) (j : Nat), T.kidsOf id = (T.kidsOf id).take j ++ ks → j + ks.length = (T.kidsOf id).length → IsChain T (ks.flatMap T.pre) (T.behind id) := by
    intro ks
    induction ks with
    | nil => intro j _ _ i x hx; simp at hx
    | cons k r ihr =>
      intro j he hl
      have hjk : (T.kidsOf id)[j]? = some k := by
        rw [he, List.getElem?_append_right (by rw [List.length_take]; omega), List.length_take, show j - min j (T.kidsOf id).length = 0 by simp at hl; omega]; rfl
      have hb := hw.behind_kid hjk
      have hk := ih k (List.mem_of_getElem? hjk)
      have hr := ihr (j + 1) (by
        have hlt := (List.getElem?_eq_some_iff.1 hjk).1
        have e2 := (List.getElem?_eq_some_iff.1 hjk).2
        rw [List.take_succ_eq_append_getElem hlt, e2, List.append_assoc]; exact he) (by simp at hl; omega)
      rw [List.flatMap_cons]
      cases r with
      | nil =>
        rw [List.getElem?_eq_none (by simp at hl; omega)] at hb
        rw [List.flatMap_nil, List.append_nil]
        have hb' : T.behind k = T.behind id := hb
        rw [← hb']; exact hk
      | cons k' r' =>
        have hjk' : (T.kidsOf id)[j + 1]? = some k' := by
          rw [he, List.getElem?_append_right (by rw [List.length_take]; omega), List.length_take, show j + 1 - min j (T.kidsOf id).length = 1 by simp at hl; omega]; rfl
        rw [hjk'] at hb
        have hb' : T.behind k = k' := hb
        rw [hb'] at hk
        refine hk.append hr ?_
        rw [List.flatMap_cons, List.head?_append, hw.pre_head k']; rfl
  have hrest := key (T.kidsOf id) 0 (by simp) (by simp)
  rw [hw.pre_step]
  intro i x hx
  cases i with
  | zero =>
    simp at hx
    subst hx
    unfold Tr.next
    cases hk : T.kidsOf id with
    | nil => rfl
    | cons k r =>
      show k = _
      simp only [List.getElem?_cons_succ, List.flatMap_cons]
      have := hw.pre_head k
      rw [hw.pre_step k]; rfl
  | succ i =>
    simp only [List.getElem?_cons_succ] at hx ⊢
    exact hrest i x hx
theorem WF.pre_in (hw : WF T d) : ∀ id, (∃ nd, T.get? id = some nd) → ∀ x ∈ T.pre id, (∃ xd, T.get? x = some xd) ∧ T.rootOf x = T.rootOf id ∧ ∃ q, T.pathOf x = T.pathOf id ++ q := by
  refine hw.rise _ fun id ih hg x hx => ?_
  rw [hw.pre_step] at hx
  rcases List.mem_cons.1 hx with rfl | hx
  · exact ⟨hg, rfl, [], by simp⟩
  · obtain ⟨k, hk, hxk⟩ := List.mem_flatMap.1 hx
    obtain ⟨h1, h2, _, hkg⟩ := hw.kid_rank hk
    obtain ⟨i1, i2, q, i3⟩ := ih k hk hkg x hxk
    refine ⟨i1, ?_, T.idx k :: q, ?_⟩
    · rw [i2, hw.root_step k, h1, if_pos h2]
    · rw [i3, hw.path_step k, h1, if_pos h2]; simp
theorem WF.behind_path (hw : WF T d) : ∀ id, T.behind id = -1 ∨ ∃ (p : List Int) (j : Int) (q : List Int), T.pathOf id = p ++ j :: q ∧ T.pathOf (T.behind id) = p ++ [j + 1] ∧ T.rootOf (T.behind id) = T.rootOf id ∧ ∃ nd, T.get? (T.behind id) = some nd := by
  refine hw.down _ (fun id h => ?_) (fun id h ih => ?_)
  · rw [hw.behind_step, if_neg h]; exact .inl rfl
  · obtain ⟨j, j1, j2, j3, j4⟩ := hw.idx_kid h
    have hb := hw.behind_kid j2
    cases hs : (T.kidsOf (T.up id))[j + 1]? with
    | some y =>
      rw [hs] at hb
      have hb' : T.behind id = y := hb
      obtain ⟨k1, k2, k3⟩ := hw.kid_idx hs
      obtain ⟨_, _, _, kg⟩ := hw.kid_rank (List.mem_of_getElem? hs)
      rw [hb']
      refine .inr ⟨T.pathOf (T.up id), j, [], ?_, ?_, ?_, kg⟩
      · rw [hw.path_step id, if_pos h, j1]
      · rw [hw.path_step y, k1, if_pos k3, k2]; simp
      · rw [hw.root_step y, k1, if_pos k3, hw.root_step id, if_pos h]
    | none =>
      rw [hs] at hb
      have hb' : T.behind id = T.behind (T.up id) := hb
      rw [hb']
      rcases ih with h1 | ⟨p, i, q, h1, h2, h3, h4⟩
      · exact .inl h1
      · refine .inr ⟨p, i, q ++ [T.idx id], ?_, h2, ?_, h4⟩
        · rw [hw.path_step id, if_pos h, h1]; simp
        · rw [h3, hw.root_step id, if_pos h]
theorem get_nonneg {T : Tr} {x : Int} (h : ∃ nd, T.get? x = some nd) : 0 ≤ x := by obtain ⟨nd, h⟩ := h; exact (Tr.get_lt h).1
theorem WF.pre_not (hw : WF T d) {id x : Int} (hg : ∃ nd, T.get? id = some nd) (hx : x ∈ T.pre id) : x ≠ T.behind id := by
  obtain ⟨h1, h2, r, h3⟩ := hw.pre_in id hg x hx
  rcases hw.behind_path id with h | ⟨p, j, q, h4, h5, _⟩
  · have := get_nonneg h1; omega
  · intro e
    rw [← e, h3, h4, List.append_assoc] at h5
    have h6 := List.append_cancel_left h5
    simp at h6
    omega
theorem WF.pre_nodup (hw : WF T d) {id : Int} (hg : ∃ nd, T.get? id = some nd) : (T.pre id).Nodup := by
  have hc := hw.chain id
  have step : ∀ (m i j : Nat) (x : Int), (T.pre id)[i]? = some x → (T.pre id)[j]? = some x → ((T.pre id)[i + m]?).getD (T.behind id) = ((T.pre id)[j + m]?).getD (T.behind id) := by
    intro m
    induction m with
    | zero => intro i j x h1 h2; rw [Nat.add_zero, Nat.add_zero, h1, h2]
    | succ m ih =>
      intro i j x h1 h2
      have e1 := hc i x h1
      have e2 := hc j x h2
      rw [e1] at e2
      cases hi : (T.pre id)[i + 1]? with
      | some y =>
        rw [hi] at e2
        have e3 : y = ((T.pre id)[j + 1]?).getD (T.behind id) := e2
        cases hj : (T.pre id)[j + 1]? with
        | some y' =>
          rw [hj] at e3
          have e4 : y = y' := e3
          subst e4
          have := ih (i + 1) (j + 1) y hi hj
          rw [show i + 1 + m = i + (m + 1) by omega, show j + 1 + m = j + (m + 1) by omega] at this
          exact this
        | none =>
          rw [hj] at e3
          exact absurd e3 (hw.pre_not hg (List.mem_of_getElem? hi))
      | none =>
        rw [hi] at e2
        have e3 : T.behind id = ((T.pre id)[j + 1]?).getD (T.behind id) := e2
        have hi' := List.getElem?_eq_none_iff.1 hi
        cases hj : (T.pre id)[j + 1]? with
        | some y' =>
          rw [hj] at e3
          have e4 : T.behind id = y' := e3
          exact absurd e4.symm (hw.pre_not hg (List.mem_of_getElem? hj))
        | none =>
          have hj' := List.getElem?_eq_none_iff.1 hj
          rw [List.getElem?_eq_none (by omega), List.getElem?_eq_none (by omega)]
  refine List.pairwise_iff_getElem.2 fun i j hi hj hij he => ?_
  obtain ⟨x, hx⟩ : ∃ x, (T.pre id)[j]? = some x := ⟨(T.pre id)[j], by simp [hj]⟩
  have hxi : (T.pre id)[i]? = some x := by
    rw [List.getElem?_eq_getElem hi, he, ← List.getElem?_eq_getElem hj]; exact hx
  have h1 := step ((T.pre id).length - j) i j x hxi hx
  rw [show j + ((T.pre id).length - j) = (T.pre id).length by omega, List.getElem?_eq_none (Nat.le_refl _)] at h1
  have hlt : i + ((T.pre id).length - j) < (T.pre id).length := by omega
  rw [List.getElem?_eq_getElem hlt] at h1
  exact absurd h1 (hw.pre_not hg (List.getElem_mem hlt))
theorem WF.pre_len (hw : WF T d) : ∀ id, (∃ nd, T.get? id = some nd) → (T.pre id).length = (T.plain id).size := by
  refine hw.rise _ fun id ih hg => ?_
  obtain ⟨nd, hg⟩ := hg
  obtain ⟨i, rfl, hi⟩ := nat_of hg
  have hk : T.kidsOf (i : Int) = nd.kids := by unfold Tr.kidsOf; rw [hg]
  rw [hw.pre_step, hw.plain_eq hi, PN.size_eq, hk, List.length_cons]
  congr 1
  have : ∀ l : List Int, (∀ k ∈ l, k ∈ nd.kids) → (l.flatMap T.pre).length = PN.sizes (l.map T.plain) := by
    intro l
    induction l with
    | nil => intro _; rfl
    | cons k r ihr =>
      intro h
      rw [List.flatMap_cons, List.length_append, List.map_cons, PN.sizes, ihr fun x hx => h x (by simp [hx])]
      have hkk : k ∈ T.kidsOf (i : Int) := by rw [hk]; exact h k (by simp)
      rw [ih k hkk (hw.kid_rank hkk).2.2.2]
  exact this nd.kids fun k hk => hk
theorem WF.pre_2000 (hw : WF T d) {id : Int} (hg : ∃ nd, T.get? id = some nd) : (T.pre id).length ≤ 2000 := by
  rw [hw.pre_len id hg]
  obtain ⟨nd, hg⟩ := hg
  obtain ⟨i, rfl, hi⟩ := nat_of hg
  have h1 := hw.rid_size hi
  have h2 : 0 ≤ (T.rid fun j => T.within j i).count := Int.natCast_nonneg _
  have h3 := hw.small.count1
  have h4 := hw.small.cap1
  omega
end
end Go.Proofs.YthgnbbbdcebjhaaGreat
namespace Go.Proofs.YthgnbbbdcebjhaaGreat
open Go Go.RowKit Go.BigFrame Go.Shelf
attribute [local go_sem] Oper.semAt_some

structure TLow (n₀ : Nat) (w : World) (tb : Nat) (T : Tr) : Prop where
  out : ∃ own ptr, TreeAt w own ptr tb T ∧ ∀ b, own b ≠ none → b < n₀
theorem TLow.below {n₀ : Nat} {w w' : World} {tb : Nat} {T : Tr} (h : TLow n₀ w tb T) (x : Below n₀ w w') : TLow n₀ w' tb T := by
  obtain ⟨own, ptr, hT, hO⟩ := h.out
  exact ⟨own, ptr, hT.keep fun b hb => Below.block x b (hO b hb), hO⟩
theorem TLow.tat {n₀ : Nat} {w : World} {tb : Nat} {T : Tr} (h : TLow n₀ w tb T) (hn : n₀ ≤ w.heap.size) : TAt w tb T := by
  obtain ⟨own, ptr, hT, hO⟩ := h.out
  exact ⟨own, ptr, hT, fun b hb => Nat.lt_of_lt_of_le (hO b hb) hn⟩
theorem TAt.low {w : World} {tb : Nat} {T : Tr} (h : TAt w tb T) : TLow w.heap.size w tb T := by
  obtain ⟨own, ptr, hT, hO⟩ := h.out
  exact ⟨own, ptr, hT, hO⟩
theorem Ext.grownBy {w w' : World} (x : Ext w w') : w.grownBy w' none := ⟨x.os, x.tape, x.output, x.size, fun k hk _ => Below.block x k hk⟩
theorem abides_ext {β : Type} {B : Nat} {J : β → World → Prop} (h : AbidesFrom B J) {s : β} {w w' : World} (hs : J s w) (x : Ext w w') : J s w' := h s w w' none hs x.grownBy fun r e => by cases e
def KpB (n₀ Bt Bi : Nat) (w w' : World) : Prop := Below n₀ w w' ∧ ∀ b, b = Bt ∨ b = Bi → b < w.heap.size → w'.heap[b]? = w.heap[b]?
theorem KpB.trans {n₀ Bt Bi : Nat} {a b c : World} (h : KpB n₀ Bt Bi a b) (k : KpB n₀ Bt Bi b c) : KpB n₀ Bt Bi a c :=
  ⟨h.1.trans k.1, fun x hx hl => (k.2 x hx (Nat.lt_of_lt_of_le hl (Below.size h.1))).trans (h.2 x hx hl)⟩
theorem KpB.cell {n₀ Bt Bi : Nat} {a b : World} (h : KpB n₀ Bt Bi a b) {x : Nat} (hx : x = Bt ∨ x = Bi) {v : Value} (hc : a.cell? ⟨x, 0, none⟩ = some v) : b.cell? ⟨x, 0, none⟩ = some v :=
  (World.cell?_of_block (a := ⟨x, 0, none⟩) (h.2 x hx (cell_lt hc))).trans hc
theorem idx_at {L : List Int} (hn : L.Nodup) {k : Nat} {x : Int} (h : L[k]? = some x) : L.idxOf x = k := by
  have h1 := nodup_pos hn h
  have h2 := (posOf_mem (List.mem_of_getElem? h)).1
  rw [h1] at h2
  omega
theorem within1_in {tb : Nat} {T : Tr} {d : Nat → Nat} (hw : WF T d) (id : Int) (n : Nat) (hn : 1 ≤ n) (l Bt Bi n₀ : Nat) (J Jx : List Int → World → Prop)
    (hY : ∀ pre x W, J pre W → pre.length < (T.allOf id).length → YieldAt Fence.wide (n - 1) Tryz.prog l #[.int .i64 x] W fun e W' =>
      (e = .returned (.bool true) ∧ J (pre ++ [x]) W' ∧ KpB n₀ Bt Bi W W') ∨ (e = .returned (.bool false) ∧ Jx (pre ++ [x]) W'))
    (W : World) (hJ : AbidesFrom W.heap.size J) (hct : W.cell? ⟨Bt, 0, none⟩ = some (.pointer (some ⟨tb, 0, none⟩))) (hci : W.cell? ⟨Bi, 0, none⟩ = some (.int .i64 id)) (hn0 : n₀ ≤ W.heap.size) (hL : TLow n₀ W tb T) (h0 : J [] W) :
    CallsIn Fence.wide n Tryz.prog 150 #[.func (.yield l) #[] #[], .pointer (some ⟨Bt, 0, none⟩), .pointer (some ⟨Bi, 0, none⟩)] W fun e W' => (∃ v, e = .returned v) ∧
      ((∃ ys, ys = T.allOf id ∧ J ys W') ∨ (∃ pre, pre <+: T.allOf id ∧ Jx pre W')) := by
  have HL := qh hL
  have HJ := qh hJ
  have HY := qh hY
  have H0 := qh h0
  clear hL hJ hY h0
  cases hg : T.get? id with
  | none =>
    have HE := qh (show T.allOf id = [] by unfold Tr.allOf; rw [hg])
    have HG := qh hg
    clear hg
    refine callsIn_of_wp Tryz.func150 rfl trivial ?_ rfl
    simp only [Tryz.ntmps150, List.size_toArray, List.length_cons, List.length_nil, Nat.reduceAdd, Nat.reduceSub, Array.replicate_succ, Array.replicate_zero, List.push_toArray, List.append_toArray, List.nil_append, List.cons_append]
    gi_wp2_with (refine ⟨trivial, ?_⟩; gi_at_call 75; refine (callsIn_wide.2 (at_has_no (HL.out.tat hn0) HG.out)).mono ?_; rintro e w2 ⟨rfl, hx2⟩)
    refine bodyPost_ret (results_none rfl _ _ _) rfl ?_
    exact ⟨⟨_, rfl⟩, .inl ⟨[], HE.out.symm, abides_ext HJ.out H0.out hx2⟩⟩
  | some nd =>
    obtain ⟨L, hLd⟩ : ∃ L, T.allOf id = L := ⟨_, rfl⟩
    have hpre : T.allOf id = T.pre id := by unfold Tr.allOf; rw [hg]
    rw [hLd] at hpre
    obtain ⟨z, hz⟩ : ∃ z, T.behind id = z := ⟨_, rfl⟩
    have hch : ∀ (i : Nat) (x : Int), L[i]? = some x → T.next x = (L[i + 1]?).getD z := by rw [hpre, ← hz]; exact hw.chain id
    have hin : ∀ x ∈ L, 0 ≤ x ∧ x ≠ z := fun x hx => by
      rw [hpre] at hx
      exact ⟨get_nonneg (hw.pre_in id ⟨nd, hg⟩ x hx).1, by rw [← hz]; exact hw.pre_not ⟨nd, hg⟩ hx⟩
    have hnd : L.Nodup := by rw [hpre]; exact hw.pre_nodup ⟨nd, hg⟩
    have hhd : L[0]? = some id := by rw [hpre, ← List.head?_eq_getElem?]; exact hw.pre_head id
    have HZ := qh hz
    have HG := qh hg
    have HCH := qh hch
    have HIN := qh hin
    have HND := qh hnd
    have HHD := qh hhd
    have HLD := qh hLd
    rw [hLd] at HY ⊢
    clear hg hLd hpre hz hch hin hnd hhd
    have HBH := qh (show ∀ u, TAt u tb T → Calls Tryz.prog 151 #[.pointer (some ⟨tb, 0, none⟩), .int .i64 id] u (RVal (.int .i64 z) u) from fun u h => HZ.out ▸ Behind_any h hw id)
    refine callsIn_of_wp Tryz.func150 rfl trivial ?_ rfl
    simp only [Tryz.ntmps150, List.size_toArray, List.length_cons, List.length_nil, Nat.reduceAdd, Nat.reduceSub, Array.replicate_succ, Array.replicate_zero, List.push_toArray, List.append_toArray, List.nil_append, List.cons_append]
    gi_wp2_with (first
      | (refine ⟨trivial, ?_⟩; gi_at_call 75; refine (callsIn_wide.2 (at_has_yes (HL.out.tat hn0) HG.out)).mono ?_; rintro e w2 ⟨rfl, hx2⟩; have hct2 := hx2.cell hct; have hci2 := hx2.cell hci)
      | (refine ⟨trivial, ?_⟩; gi_at_call 151; refine (callsIn_wide.2 (HBH.out _ ((HL.out.tat hn0).ext hx2))).mono ?_; rintro e w3 ⟨rfl, hx3⟩; have hct3 := hx3.cell hct2; have hci3 := hx3.cell hci2))
    have hx := hx2.trans hx3
    have HX := qh hx
    have H3 := qh (And.intro hct3 hci3)
    have HJ3 := qh (abides_ext HJ.out H0.out hx)
    clear hx2 hx3 hx hct hci hct2 hci2 hct3 hci3
    gi_loopw [5] (fun s wr => ∃ k : Nat, k ≤ L.length ∧ s = .int .i64 ((L[k]?).getD z) ∧ Hid (J (L.take k) wr ∧ TLow n₀ wr tb T ∧ n₀ ≤ wr.heap.size) ∧ wr.cell? ⟨Bt, 0, none⟩ = some (.pointer (some ⟨tb, 0, none⟩)) ∧ wr.cell? ⟨Bi, 0, none⟩ = some (.int .i64 id))
      (fun s wr => L.length - L.idxOf (intOf s))
    case atStart => exact ⟨0, Nat.zero_le _, by rw [HHD.out]; rfl, qh ⟨HJ3.out, HL.out.below (Below.mono HX.out hn0), Nat.le_trans hn0 HX.out.size⟩, H3.out.1, H3.out.2⟩
    case round =>
      obtain ⟨k, hk, rfl, hrest, hct, hci⟩ := hrel
      by_cases hlt : k < L.length
      · obtain ⟨x, hxk⟩ : ∃ x, L[k]? = some x := ⟨L[k], by simp [hlt]⟩
        obtain ⟨hx0, hxz⟩ := HIN.out x (List.mem_of_getElem? hxk)
        obtain ⟨nx, hnx⟩ : ∃ nx, (L[k + 1]?).getD z = nx := ⟨_, rfl⟩
        have hnext := HCH.out k x hxk
        rw [hnx] at hnext
        have HNX := qh hnx
        have HXK := qh hxk
        have HNT := qh (show ∀ u, TAt u tb T → Calls Tryz.prog 152 #[.pointer (some ⟨tb, 0, none⟩), .int .i64 x] u (RVal (.int .i64 nx) u) from fun u h => hnext ▸ Next_any h hw x)
        have hzx : (x != z) = true := by simpa using hxz
        obtain ⟨fn, tmps, assign, body, hy, hR⟩ := HY.out (L.take k) x wr hrest.out.1 (by rw [List.length_take]; omega)
        have htk : L.take k ++ [x] = L.take (k + 1) := by
          obtain ⟨_, e⟩ := List.getElem?_eq_some_iff.1 hxk
          rw [List.take_succ_eq_append_getElem hlt, e]
        rw [htk] at hR
        rw [hxk]
        have HTK := qh htk
        clear hnx hnext hxk htk
        simp only [Option.getD_some]
        have HMS := qh (show L.length - L.idxOf nx < L.length - L.idxOf x by
          rw [idx_at HND.out HXK.out]
          have h1 := HNX.out
          cases hk1 : L[k + 1]? with
          | some y =>
            rw [hk1] at h1
            have h2 : y = nx := h1
            subst h2
            rw [idx_at HND.out hk1]; omega
          | none =>
            rw [hk1] at h1
            have h2 : z = nx := h1
            subst h2
            rw [List.idxOf_eq_length (fun hm => (HIN.out z hm).2 rfl)]; omega)
        gi_wp2
        refine hR.mono ?_
        rintro e W3 (⟨rfl, hJ4, hk3⟩ | ⟨rfl, hJx3⟩)
        · have hct3 : W3.cell? ⟨Bt, 0, none⟩ = some (.pointer (some ⟨tb, 0, none⟩)) := hk3.cell (.inl rfl) hct
          have hci3 : W3.cell? ⟨Bi, 0, none⟩ = some (.int .i64 id) := hk3.cell (.inr rfl) hci
          have hlow := hrest.out.2.1.below hk3.1
          have hsz : n₀ ≤ W3.heap.size := Nat.le_trans hrest.out.2.2 (Below.size hk3.1)
          have HLW := qh (And.intro hlow hsz)
          have HJ4 := qh hJ4
          clear hlow hsz hk3 hJ4 hct hci
          gi_wp2_with (refine ⟨trivial, ?_⟩; gi_at_call 152; refine (callsIn_wide.2 (HNT.out _ (HLW.out.1.tat HLW.out.2))).mono ?_; rintro e w5 ⟨rfl, hx5⟩)
          go_roundw
          case rel =>
            have hs5 := hx5.size
            exact ⟨k + 1, by omega, by rw [HNX.out], qh ⟨abides_ext HJ.out HJ4.out hx5, HLW.out.1.below (Below.mono hx5 HLW.out.2), Nat.le_trans HLW.out.2 hs5⟩, hx5.cell hct3, hx5.cell hci3⟩
          case measure => simp only [intOf]; exact HMS.out
        · gi_wp2
          refine bodyPost_ret (results_none rfl _ _ _) rfl ?_
          exact ⟨⟨_, rfl⟩, .inr ⟨L.take (k + 1), List.take_prefix _ _, hJx3⟩⟩
      · obtain rfl : k = L.length := by omega
        have hnone : L[L.length]? = none := List.getElem?_eq_none (Nat.le_refl _)
        rw [hnone]
        simp only [Option.getD_none]
        have HJE := qh (show J L wr by have := hrest.out.1; rw [List.take_length] at this; exact this)
        clear hnone
        by_cases hz0 : 0 ≤ z
        · gi_wp2
          go_end0
          first | exact ⟨⟨_, rfl⟩, .inl ⟨L, rfl, HJE.out⟩⟩ | exact ⟨⟨_, rfl⟩, .inl HJE.out⟩
        · gi_wp2
          go_end0
          first | exact ⟨⟨_, rfl⟩, .inl ⟨L, rfl, HJE.out⟩⟩ | exact ⟨⟨_, rfl⟩, .inl HJE.out⟩
theorem within_any' (tb : Nat) (id : Int) (w : World) : Calls Tryz.prog 136 #[.pointer (some ⟨tb, 0, none⟩), .int .i64 id] w fun e w' => e = .returned (.func (.func 150) #[] #[.pointer (some ⟨w.heap.size, 0, none⟩), .pointer (some ⟨w.heap.size + 1, 0, none⟩)]) ∧ w' = (w.alloc (.cells #[.pointer (some ⟨tb, 0, none⟩)] 47)).alloc (.cells #[.int .i64 id] 3) := by
  go_enter Tryz.func136, Tryz.ntmps136
  go_wp2_with fail
  go_ret
  exact ⟨rfl, rfl⟩
theorem within_stops {tb : Nat} {T : Tr} {d : Nat → Nat} (hw : WF T d) (id : Int) (n : Nat) (hn : 1 ≤ n) (Bt Bi n₀ : Nat) (w : World) (hct : w.cell? ⟨Bt, 0, none⟩ = some (.pointer (some ⟨tb, 0, none⟩))) (hci : w.cell? ⟨Bi, 0, none⟩ = some (.int .i64 id)) (hn0 : n₀ ≤ w.heap.size) (hL : TLow n₀ w tb T) :
    SeqStopsK Fence.wide n Tryz.prog 150 #[.pointer (some ⟨Bt, 0, none⟩), .pointer (some ⟨Bi, 0, none⟩)] (fun x : Int => #[Value.int .i64 x]) (KpB n₀ Bt Bi) (fun ys => ys = T.allOf id) (fun pre => pre <+: T.allOf id) (T.allOf id).length w := fun l J Jx W hW hJ _ hY h0 =>
  within1_in hw id n hn l Bt Bi n₀ J Jx hY W hJ ((hW.cell (p := ⟨Bt, 0, none⟩) (cell_lt hct)).trans hct) ((hW.cell (p := ⟨Bi, 0, none⟩) (cell_lt hci)).trans hci) (Nat.le_trans hn0 hW.size) (hL.below (hW.mono hn0)) h0
theorem ownsRow_less {W : World} {base base' : Nat} {e : TypeId} {size : Nat} {v : Value} {k : Nat} {xs : List Value} (h : W.ownsRow base e size v k xs) (hb : base' ≤ base) : W.ownsRow base' e size v k xs := by
  obtain ⟨h1, h2 | ⟨g, cap, cur, h2, h3, h4⟩⟩ := h
  · exact ⟨h1, .inl h2⟩
  · exact ⟨h1, .inr ⟨g, cap, cur, h2, Nat.le_trans hb h3, h4⟩⟩
theorem ownsRow_base {W : World} {base : Nat} {e : TypeId} {size : Nat} {v : Value} {k : Nat} {xs : List Value} (h : W.ownsRow base e size v k xs) : ∀ y, v.ownBlock = some y → base ≤ y := by
  obtain ⟨h1, h2 | ⟨g, cap, cur, rfl, h3, h4⟩⟩ := h
  · intro y hy; rw [h2.1] at hy; cases hy
  · intro y hy; cases hy; exact h3
theorem allOf_2000 {T : Tr} {d : Nat → Nat} (hw : WF T d) (id : Int) : (T.allOf id).length ≤ 2000 := by
  unfold Tr.allOf
  cases hg : T.get? id with
  | none => simp
  | some nd => exact hw.pre_2000 ⟨nd, hg⟩
theorem All_any {w : World} {tb : Nat} {T : Tr} (hT : TAt w tb T) {d : Nat → Nat} (hw : WF T d) (id : Int) : Calls Tryz.prog 94 #[.pointer (some ⟨tb, 0, none⟩), .int .i64 id] w (RRow 3 1 (T.allOf id).length ((T.allOf id).map (Value.int .i64)) w) := by
  obtain ⟨L, hL⟩ : ∃ L, T.allOf id = L := ⟨_, rfl⟩
  have hlen := allOf_2000 hw id
  rw [hL] at hlen
  obtain ⟨i0, hi, hz0, hz1, hz2⟩ := info_parts infoI
  have HL := qh hL
  rw [hL]
  clear hL
  refine (callsIn_wide (n := 5)).1 ?_
  refine callsIn_of_wp_marks Tryz.func94 rfl trivial ?_ rfl
  simp only [Tryz.ntmps94, List.size_toArray, List.length_cons, List.length_nil, Nat.reduceAdd, Nat.reduceSub, Array.replicate_succ, Array.replicate_zero, List.push_toArray, List.append_toArray, List.nil_append, List.cons_append]
  gi_wp2_with (refine ⟨trivial, ?_⟩; gi_at_call 136; refine (callsIn_wide.2 (within_any' tb id _)).mono ?_; rintro e w2 ⟨rfl, rfl⟩)
  have bO := Boxed.new w 40 (.slice none 0 0)
  have bN := Boxed.new (w.alloc (.cells #[.slice none 0 0] 40)) 47 (.pointer (some ⟨tb, 0, none⟩))
  have bI := Boxed.new ((w.alloc (.cells #[.slice none 0 0] 40)).alloc (.cells #[.pointer (some ⟨tb, 0, none⟩)] 47)) 3 (.int .i64 id)
  rw [show (w.alloc (.cells #[.slice none 0 0] 40)).heap.size = w.heap.size + 1 by simp] at bN
  rw [show ((w.alloc (.cells #[.slice none 0 0] 40)).alloc (.cells #[.pointer (some ⟨tb, 0, none⟩)] 47)).heap.size = w.heap.size + 1 + 1 by simp] at bI
  have hB0 : Below w.heap.size w (((w.alloc (.cells #[.slice none 0 0] 40)).alloc (.cells #[.pointer (some ⟨tb, 0, none⟩)] 47)).alloc (.cells #[.int .i64 id] 3)) := (((Below.refl _ w).alloc (Nat.le_refl _) _).alloc (by simp) _).alloc (by simp; omega) _
  have hLow := hT.low.below hB0
  rw [← HL.out]
  refine wpIn_rangeFunc_ownG rfl (by omega) (gf := 150) (lb := #[.pointer (some ⟨w.heap.size + 1, 0, none⟩), .pointer (some ⟨w.heap.size + 1 + 1, 0, none⟩)]) rfl trivial (enters_of Tryz.func150 (by kernel_rfl) rfl)
    (within_stops hw id 4 (by omega) (w.heap.size + 1) (w.heap.size + 1 + 1) w.heap.size _ (bN.alloc _).cell bI.cell (by simp; omega) hLow) ?hKt ?hKb (Below.refl _ _) (fun _ => rfl)
    (fun pre W => (∃ v, Boxed W w.heap.size 40 v ∧ W.ownsRow (w.heap.size + 3) 3 1 v pre.length (pre.map (Value.int .i64)) ∧ True) ∧ Below w.heap.size (((w.alloc (.cells #[.slice none 0 0] 40)).alloc (.cells #[.pointer (some ⟨tb, 0, none⟩)] 47)).alloc (.cells #[.int .i64 id] 3)) W)
    (fun _ _ _ => False)
    (OwnFrom.and (Own.from (holdsRow_own (w.heap.size + 3) w.heap.size 40 3 1 (fun pre : List Int => pre.length) (fun pre : List Int => pre.map (Value.int .i64)) (fun (_ : List Int) _ => True)) _) (ownFrom_below (by simp; omega) (by simp; omega)))
    (fun _ _ _ _ _ hs _ _ => hs)
    ⟨⟨_, (bO.alloc _).alloc _, World.ownsRow_nil _ _ _ _, trivial⟩, Below.refl _ _⟩
    (fun x => { tmps := #[.pointer (some ⟨tb, 0, none⟩), .int .i64 id, undef, undef, .slice none 0 0, .pointer (some ⟨w.heap.size, 0, none⟩), .int .i64 x, .pointer (some ⟨tb, 0, none⟩), .int .i64 id, .func (.func 150) #[] #[.pointer (some ⟨w.heap.size + 1, 0, none⟩), .pointer (some ⟨w.heap.size + 1 + 1, 0, none⟩)], .int .i64 x, undef, undef, undef, undef, undef], defers := [] }) ?assign ?body ?done ?stop
  case hKt => exact fun h k => h.trans k
  case hKb =>
    intro W l o o' hl ho hc hwk
    refine ⟨belowK_b (w := ((w.alloc (.cells #[.slice none 0 0] 40)).alloc (.cells #[.pointer (some ⟨tb, 0, none⟩)] 47)).alloc (.cells #[.int .i64 id] 3)) (by simp; omega) W l o o' hl ho hc hwk, fun b hb hlt => ?_⟩
    simp at hl
    have hne : l ≠ b := by omega
    simp [World.putObj, Array.getElem?_setIfInBounds, hne]
  case assign =>
    intro l x W K hK
    gi_wp2
    exact hK
  case body =>
    rintro l pre x W ⟨⟨v, hv, hrow, _⟩, hB⟩ hlt
    have hc := hv.cell
    have hsz : w.heap.size + 3 ≤ W.heap.size := by have := hB.size; simp at this; omega
    have hrow0 : W.ownsRow w.heap.size 3 1 v pre.length (pre.map (Value.int .i64)) := ownsRow_less hrow (by omega)
    have hob : ∀ y, v.ownBlock = some y → w.heap.size + 3 ≤ y := ownsRow_base hrow
    rw [HL.out] at hlt
    have HOB := qh hob
    have HR0 := qh hrow0
    clear hrow0 hob
    gi_wp2_with (gi_at_builtin; refine wpListIn_append_own _ rfl _ _ 40 rfl (w.heap.size + 3) 3 i0 (.int .i64 0) 1 8 Tryz.underlying40 hi hz0 hz1 hz2 rfl (by decide) _ _ _ rfl (hrow.alloc _) ⟨W.heap.size, 0, none⟩ 1 1 [.int .i64 x] rfl rfl (cell_one_new _ _ _) (by simp [Value.oneCell']) (by unfold maxLen; omega) (by omega) (by simp; omega) ?_; intro v' w1 hown' hgrow _; obtain ⟨g', cap', rfl⟩ := ownsRow_succ hown'; obtain ⟨hv1, hv2, hr2, hk2, hb2⟩ := hv.appended (by decide) HR0.out (by omega) (Nat.le_refl _) (ownsRow_less hown' (by omega)) hgrow; have hc1 := hv1.cell; have hf1 := hv1.frozen)
    refine ⟨hk2.from _, ⟨hb2, fun b hb hlt' => ?_⟩, ⟨_, hv2, by simpa using hown'.kept (grownBy_setCell' w1 w.heap.size _) (.inr (hv1.not_row (by decide) hown').symm), trivial⟩, hB.trans hb2⟩
    rw [heap_setCell_other (p := ⟨w.heap.size, 0, none⟩) _ (show b ≠ w.heap.size by omega)]
    refine (hgrow.block b (by simp; omega) fun e => ?_).trans (Below.heap_alloc _ _ _ hlt')
    have h9 : v.ownBlock = some b := e.symm
    have := HOB.out b h9
    omega
  case done =>
    rintro D ys W hD rfl ⟨⟨v, hv, hrow, _⟩, hB⟩ hK
    have hc := hv.cell
    gi_wp2
    refine ⟨by simp, .inl ⟨_, _, rfl, run_takeDeferred hK, ?_⟩⟩
    have hrow' := ownsRow_putObj (ownsRow_less hrow (show w.heap.size ≤ w.heap.size + 3 by omega)) (.deferred none) hK rfl
    rw [HL.out] at hrow'
    exact ⟨_, results_tmp rfl _ _ _, v, rfl, RowP.of_owns hrow', (hB0.trans hB).trans (belowK_b (w := w) (Nat.le_refl _) W D _ _ (by simp at hD; omega) hK rfl rfl)⟩
  case stop =>
    rintro D c pre W _ _ h _
    exact h.elim
end Go.Proofs.YthgnbbbdcebjhaaGreat
namespace Go.Proofs.YthgnbbbdcebjhaaGreat
open Go Go.RowKit
abbrev pl (n a : Int) : Value := .agg #[.int .i64 n, .int .i64 a]
def okI (z : Int) : Prop := -1 ≤ z ∧ z ≤ 1073741824

theorem above_any (n a p q : Int) (w : World) :
    Calls Tryz.prog 110 #[pl n a, .int .i64 p, .int .i64 q] w (RBool (decide (n = p) && decide (q < a)) w) := by
  by_cases h1 : n = p
  · subst h1
    by_cases h2 : q < a
    · go_enter Tryz.func110, Tryz.ntmps110
      go_wp2
      go_ret
      exact ⟨by simp [h2], (Ext.refl _).alloc _⟩
    · go_enter Tryz.func110, Tryz.ntmps110
      go_wp2
      go_ret
      exact ⟨by simp [h2], (Ext.refl _).alloc _⟩
  · go_enter Tryz.func110, Tryz.ntmps110
    go_wp2
    go_ret
    exact ⟨by simp [h1], (Ext.refl _).alloc _⟩
theorem above_yes {n a p q : Int} (w : World) (h1 : n = p) (h2 : q < a) :
    Calls Tryz.prog 110 #[pl n a, .int .i64 p, .int .i64 q] w (RBool true w) := by
  have h := above_any n a p q w
  rw [show (decide (n = p) && decide (q < a)) = true from by simp [h1, h2]] at h
  exact h
theorem above_no {n a p q : Int} (w : World) (h : ¬ (n = p ∧ q < a)) :
    Calls Tryz.prog 110 #[pl n a, .int .i64 p, .int .i64 q] w (RBool false w) := by
  have k := above_any n a p q w
  rw [show (decide (n = p) && decide (q < a)) = false from by simpa using h] at k
  exact k

def badB (n : Int) : Bool := decide (n < -1) || decide (n > 1073741824)
def BadIs (b : Bool) (w : World) (e : Ending) (w' : World) : Prop := e = .returned (.bool b) ∧ w = w'

theorem bad_any (n : Int) (w : World) :
    Calls Tryz.prog 145 #[.int .i64 n] w (BadIs (badB n) w) := by
  by_cases h1 : n < -1
  · go_enter Tryz.func145, Tryz.ntmps145
    go_wp2
    go_ret
    exact ⟨by simp [badB, h1], rfl⟩
  · by_cases h2 : n > 1073741824
    · go_enter Tryz.func145, Tryz.ntmps145
      go_wp2
      go_ret
      exact ⟨by simp [badB, h2], rfl⟩
    · go_enter Tryz.func145, Tryz.ntmps145
      go_wp2
      go_ret
      exact ⟨by simp [badB]; omega, rfl⟩
theorem bad_yes (n : Int) (w : World) (h : badB n = true) : Calls Tryz.prog 145 #[.int .i64 n] w (BadIs true w) := by rw [← h]; exact bad_any n w
theorem bad_no (n : Int) (w : World) (h : badB n = false) : Calls Tryz.prog 145 #[.int .i64 n] w (BadIs false w) := by rw [← h]; exact bad_any n w

theorem any_take_yes {zs : List Int} {k : Nat} {z : Int} (hz : zs[k]? = some z) (hb : badB z = true) : zs.any badB = true := by
  rw [List.any_eq_true]; exact ⟨z, List.mem_of_getElem? hz, hb⟩
theorem any_take_no {zs : List Int} {k : Nat} {z : Int} (hz : zs[k]? = some z) (hb : badB z = false) (h : (zs.take k).any badB = false) : (zs.take (k + 1)).any badB = false := by
  obtain ⟨hlt, rfl⟩ := List.getElem?_eq_some_iff.1 hz
  rw [List.take_succ_eq_append_getElem hlt, List.any_append, h]; simp [hb]
def FirstBad (zs : List Int) (w : World) (e : Ending) (w' : World) : Prop := ∃ k : Int, -1 ≤ k ∧ k ≤ 100 ∧ e = .returned (.int .i64 k) ∧ Hid (0 ≤ k ↔ zs.any badB = true) ∧ w = w'

theorem badIndex_any (b : Nat) (zs : List Int) (cap : Nat) (w : World) (hl : zs.length ≤ 100) (hc : ∀ (i : Nat) z, zs[i]? = some z → w.cell? ⟨b, i, none⟩ = some (.int .i64 z)) :
    Calls Tryz.prog 153 #[.slice (some ⟨b, 0, none⟩) zs.length cap, .func (.func 145) #[] #[]] w (FirstBad zs w) := by
  have HC := qh hc
  clear hc
  go_enter Tryz.func153, Tryz.ntmps153
  go_wp2
  go_loop [5, 8] (fun _ i => ∃ k : Nat, k ≤ zs.length ∧ i = .int .i64 k ∧ (zs.take k).any badB = false) (fun _ i => zs.length - (intOf i).toNat)
  case atStart => exact ⟨0, Nat.zero_le _, rfl, by simp⟩
  case round =>
    obtain ⟨k, hk, rfl, hno⟩ := hrel
    have Hno := qh hno
    clear hno
    by_cases hlt : k < zs.length
    · obtain ⟨z, hz⟩ : ∃ z, zs[k]? = some z := ⟨zs[k], by simp [hlt]⟩
      have hcell := HC.out k z hz
      have HZ := qh hz
      clear hz
      cases hb : badB z
      · have HB := qh hb
        clear hb
        go_wp2_with (go_at_call 145; refine (bad_no _ _ HB.out).mono ?_; rintro e w' ⟨rfl, rfl⟩)
        go_round
        case rel => exact ⟨k + 1, by omega, by go_num, any_take_no HZ.out HB.out Hno.out⟩
        case measure => simp [intOf]; omega
      · have HB := qh hb
        clear hb
        go_wp2_with (go_at_call 145; refine (bad_yes _ _ HB.out).mono ?_; rintro e w' ⟨rfl, rfl⟩)
        go_ret
        exact ⟨k, by omega, by omega, rfl, by simp [any_take_yes HZ.out HB.out, Hid], rfl⟩
    · go_wp2
      go_ret
      refine ⟨-1, by omega, by omega, rfl, ?_, rfl⟩
      have h := Hno.out
      rw [List.take_of_length_le (by omega)] at h
      rw [h]; simp [Hid]

theorem contains_any (b : Nat) (zs : List Int) (len cap : Nat) (w : World) (hlen : len = zs.length) (hl : zs.length ≤ 100) (hc : ∀ (i : Nat) z, zs[i]? = some z → w.cell? ⟨b, i, none⟩ = some (.int .i64 z)) :
    Calls Tryz.prog 144 #[.slice (some ⟨b, 0, none⟩) len cap, .func (.func 145) #[] #[]] w (BadIs (zs.any badB) w) := by
  subst hlen
  have HC := qh hc
  clear hc
  go_enter Tryz.func144, Tryz.ntmps144
  go_wp2_with (go_at_call 153; refine (badIndex_any _ _ _ _ hl HC.out).mono ?_; rintro e w' ⟨k, h1, h2, rfl, hk, rfl⟩)
  go_ret
  exact ⟨by rw [show decide (0 ≤ k) = zs.any badB from by rw [Bool.eq_iff_iff, ← hk.out]; simp]; rfl, rfl⟩

theorem infoInt : (Tryz.prog.info? 3).map (fun i => (i.zero, i.size, i.bytes)) = some (some (.int .i64 0), 1, 8) := by kernel_rfl

theorem fit_any (n a : Int) (b : Nat) (zs : List Int) (w : World) (hl : zs.length ≤ 50) (hpos : 0 < zs.length) (hc : ∀ (i : Nat) z, zs[i]? = some z → w.cell? ⟨b, i, none⟩ = some (.int .i64 z)) :
    Calls Tryz.prog 108 #[pl n a, .slice (some ⟨b, 0, none⟩) zs.length zs.length] w (RBool (!(zs ++ [n, a]).any badB) w) := by
  have HC := qh hc
  clear hc
  obtain ⟨i0, hi, hz0, hz1, hz2⟩ := info_parts infoInt
  have Hi := qh hi
  have Hz0 := qh hz0
  have Hz1 := qh hz1
  have Hz2 := qh hz2
  clear hi hz0 hz1 hz2
  go_enter Tryz.func108, Tryz.ntmps108
  go_wp2_with (at_builtin; refine wpList_append_grows _ rfl _ _ 40 rfl 3 i0 (.int .i64 0) 1 8 Tryz.underlying40 Hi.out Hz0.out Hz1.out Hz2.out rfl (by decide) (some ⟨b, 0, none⟩) zs.length zs.length (zs.map (Value.int .i64)) rfl (by simp) (by simp) ?c1 ⟨w.heap.size + 1, 0, none⟩ 2 2 [.int .i64 n, .int .i64 a] rfl rfl ?c2 ?c3 (by omega) (by unfold maxLen; omega) (by omega) ?_)
  case c1 =>
    intro c hc j u hj
    obtain rfl : (⟨b, 0, none⟩ : Addr) = c := by simpa using hc
    rw [List.getElem?_map] at hj
    obtain ⟨z, hz, rfl⟩ := Option.map_eq_some_iff.1 hj
    rw [Addr.add_lit]
    simp only [Nat.zero_add]
    exact (((Ext.refl _).alloc _).alloc _).cell (HC.out j z hz)
  case c2 => exact cells2 (by simp) (by simp)
  case c3 => simp [Value.oneCell']
  intro v' w1 hown hg
  have hb : Ext w w1 := (((Ext.refl _).alloc _).alloc _).grown hg (by simp)
  clear hg
  obtain ⟨g, cap, hv, hbg, hgs, hcs⟩ := owned_ints (zs := zs ++ [n, a]) (by rw [List.map_append]; exact hown) (by omega)
  rw [hv]
  have HCS := qh hcs
  clear hown hcs hv
  go_wp2_with (go_at_call 144; refine (contains_any _ _ _ _ _ (by simp) (by simp; omega) HCS.out).mono ?_; rintro e w' ⟨rfl, rfl⟩)
  go_ret
  exact ⟨by simp, hb⟩

theorem bad_of {z : Int} (h : okI z) : badB z = false := by have h1 := h.1; have h2 := h.2; simp [badB]; omega
theorem fit_yes (n a : Int) (b : Nat) (zs : List Int) (len cap : Nat) (w : World) (hlen : len = zs.length) (hcap : cap = zs.length) (hl : zs.length ≤ 50) (hpos : 0 < zs.length) (hn : okI n) (ha : okI a) (hz : ∀ z ∈ zs, okI z) (hc : ∀ (i : Nat) z, zs[i]? = some z → w.cell? ⟨b, i, none⟩ = some (.int .i64 z)) :
    Calls Tryz.prog 108 #[pl n a, .slice (some ⟨b, 0, none⟩) len cap] w (RBool true w) := by
  subst hlen hcap
  have h := fit_any n a b zs w hl hpos hc
  have e : (!(zs ++ [n, a]).any badB) = true := by
    have : zs.any badB = false := by
      rw [List.any_eq_false]; intro z h; simp [bad_of (hz z h)]
    simp [this, bad_of hn, bad_of ha]
  rw [e] at h
  exact h

def RPlace (n a : Int) (w : World) (e : Ending) (w' : World) : Prop := e = .returned (pl n a) ∧ Ext w w'
theorem to_any (n a : Int) (w : World) :
    Calls Tryz.prog 109 #[.int .i64 n, .int .i64 a] w (RPlace n a w) := by
  go_enter Tryz.func109, Tryz.ntmps109
  go_wp2
  refine bodyPost_ret (v := .agg #[.int .i64 n, .int .i64 a]) (by simp [results, Tryz.results109, go_sem]) rfl ⟨rfl, ?_⟩
  exact (Ext.refl _).alloc _
theorem inserted_yes (n a p q m : Int) (w : World) (hn : okI n) (ha : okI a) (hp : okI p) (hq : okI q) (hm : okI m) (e0 : n = p) (e1 : q < a) :
    Calls Tryz.prog 74 #[pl n a, .int .i64 p, .int .i64 q, .int .i64 m] w (RPlace (n) (a + m) w) := by
  have kn := hn.1
  have mn := hn.2
  have ka := ha.1
  have ma := ha.2
  have kp := hp.1
  have mp := hp.2
  have kq := hq.1
  have mq := hq.2
  have km := hm.1
  have mm := hm.2
  have E0 := qh e0
  clear e0
  have E1 := qh e1
  clear e1
  go_enter Tryz.func74, Tryz.ntmps74
  go_wp2_with fail
  refine (fit_yes _ _ _ [p, q, m] _ _ _ rfl rfl (by simp) (by simp) hn ha ?_ (cells_3 ?_ ?_ ?_)).mono ?_
  rotate_right
  · rintro e w1 ⟨rfl, hx1⟩
    have c0 := hx1.cell (b := w.heap.size) (o := 0) (v := .int .i64 (n)) (by simp [go_sem])
    have f0 := hx1.free (b := w.heap.size) (o := 0) (by simp <;> omega) (by simp [go_sem])
    have c1 := hx1.cell (b := w.heap.size) (o := 1) (v := .int .i64 (a)) (by simp [go_sem])
    have f1 := hx1.free (b := w.heap.size) (o := 1) (by simp <;> omega) (by simp [go_sem])
    have c2 := hx1.cell (b := w.heap.size + 1) (o := 0) (v := .int .i64 (0)) (by simp [go_sem])
    have f2 := hx1.free (b := w.heap.size + 1) (o := 0) (by simp <;> omega) (by simp [go_sem])
    have c3 := hx1.cell (b := w.heap.size + 1) (o := 1) (v := .int .i64 (0)) (by simp [go_sem])
    have f3 := hx1.free (b := w.heap.size + 1) (o := 1) (by simp <;> omega) (by simp [go_sem])
    have l0 := cell_lt c0
    have l1 := cell_lt c2
    have x1 : Ext w w1 := Ext.trans (((Ext.refl w).alloc _).alloc _ |>.alloc _) hx1
    clear hx1
    go_wp2_with fail
    refine (above_yes _ E0.out E1.out).mono ?_
    rintro e w2 ⟨rfl, hx2⟩
    replace f0 := hx2.free (cell_lt c0) f0
    replace c0 := hx2.cell c0
    replace f1 := hx2.free (cell_lt c1) f1
    replace c1 := hx2.cell c1
    replace f2 := hx2.free (cell_lt c2) f2
    replace c2 := hx2.cell c2
    replace f3 := hx2.free (cell_lt c3) f3
    replace c3 := hx2.cell c3
    have l0 := cell_lt c0
    have l1 := cell_lt c2
    replace x1 := x1.trans hx2
    clear hx2
    go_wp2
    refine bodyPost_ret (v := pl (n) (a + m)) (by simp [results, Tryz.results74, go_sem, c0, c1, c2, c3]) rfl ⟨rfl, ?_⟩
    repeat (first | exact x1 | exact Ext.refl _ | refine Ext.setCell ?_ (by simp) _ | refine Ext.alloc ?_ _)
  all_goals simp [go_sem, hp, hq, hm]

theorem inserted_no (n a p q m : Int) (w : World) (hn : okI n) (ha : okI a) (hp : okI p) (hq : okI q) (hm : okI m) (e0 : ¬ (n = p ∧ q < a)) :
    Calls Tryz.prog 74 #[pl n a, .int .i64 p, .int .i64 q, .int .i64 m] w (RPlace (n) (a) w) := by
  have kn := hn.1
  have mn := hn.2
  have ka := ha.1
  have ma := ha.2
  have kp := hp.1
  have mp := hp.2
  have kq := hq.1
  have mq := hq.2
  have km := hm.1
  have mm := hm.2
  have E0 := qh e0
  clear e0
  go_enter Tryz.func74, Tryz.ntmps74
  go_wp2_with fail
  refine (fit_yes _ _ _ [p, q, m] _ _ _ rfl rfl (by simp) (by simp) hn ha ?_ (cells_3 ?_ ?_ ?_)).mono ?_
  rotate_right
  · rintro e w1 ⟨rfl, hx1⟩
    have c0 := hx1.cell (b := w.heap.size) (o := 0) (v := .int .i64 (n)) (by simp [go_sem])
    have f0 := hx1.free (b := w.heap.size) (o := 0) (by simp <;> omega) (by simp [go_sem])
    have c1 := hx1.cell (b := w.heap.size) (o := 1) (v := .int .i64 (a)) (by simp [go_sem])
    have f1 := hx1.free (b := w.heap.size) (o := 1) (by simp <;> omega) (by simp [go_sem])
    have c2 := hx1.cell (b := w.heap.size + 1) (o := 0) (v := .int .i64 (0)) (by simp [go_sem])
    have f2 := hx1.free (b := w.heap.size + 1) (o := 0) (by simp <;> omega) (by simp [go_sem])
    have c3 := hx1.cell (b := w.heap.size + 1) (o := 1) (v := .int .i64 (0)) (by simp [go_sem])
    have f3 := hx1.free (b := w.heap.size + 1) (o := 1) (by simp <;> omega) (by simp [go_sem])
    have l0 := cell_lt c0
    have l1 := cell_lt c2
    have x1 : Ext w w1 := Ext.trans (((Ext.refl w).alloc _).alloc _ |>.alloc _) hx1
    clear hx1
    go_wp2_with fail
    refine (above_no _ E0.out).mono ?_
    rintro e w2 ⟨rfl, hx2⟩
    replace f0 := hx2.free (cell_lt c0) f0
    replace c0 := hx2.cell c0
    replace f1 := hx2.free (cell_lt c1) f1
    replace c1 := hx2.cell c1
    replace f2 := hx2.free (cell_lt c2) f2
    replace c2 := hx2.cell c2
    replace f3 := hx2.free (cell_lt c3) f3
    replace c3 := hx2.cell c3
    have l0 := cell_lt c0
    have l1 := cell_lt c2
    replace x1 := x1.trans hx2
    clear hx2
    go_wp2
    refine bodyPost_ret (v := pl (n) (a)) (by simp [results, Tryz.results74, go_sem, c0, c1, c2, c3]) rfl ⟨rfl, ?_⟩
    repeat (first | exact x1 | exact Ext.refl _ | refine Ext.setCell ?_ (by simp) _ | refine Ext.alloc ?_ _)
  all_goals simp [go_sem, hp, hq, hm]

theorem removed_in (n a p q : Int) (w : World) (hn : okI n) (ha : okI a) (hp : okI p) (hq : okI q)  :
    Calls Tryz.prog 58 #[pl n a, .int .i64 p, .int .i64 q, .bool true] w (RPlace (p) (q) w) := by
  have kn := hn.1
  have mn := hn.2
  have ka := ha.1
  have ma := ha.2
  have kp := hp.1
  have mp := hp.2
  have kq := hq.1
  have mq := hq.2
  go_enter Tryz.func58, Tryz.ntmps58
  go_wp2_with fail
  refine (fit_yes _ _ _ [p, q] _ _ _ rfl rfl (by simp) (by simp) hn ha ?_ (cells_2 ?_ ?_)).mono ?_
  rotate_right
  · rintro e w1 ⟨rfl, hx1⟩
    have c0 := hx1.cell (b := w.heap.size) (o := 0) (v := .int .i64 (n)) (by simp [go_sem])
    have f0 := hx1.free (b := w.heap.size) (o := 0) (by simp <;> omega) (by simp [go_sem])
    have c1 := hx1.cell (b := w.heap.size) (o := 1) (v := .int .i64 (a)) (by simp [go_sem])
    have f1 := hx1.free (b := w.heap.size) (o := 1) (by simp <;> omega) (by simp [go_sem])
    have c2 := hx1.cell (b := w.heap.size + 1) (o := 0) (v := .int .i64 (0)) (by simp [go_sem])
    have f2 := hx1.free (b := w.heap.size + 1) (o := 0) (by simp <;> omega) (by simp [go_sem])
    have c3 := hx1.cell (b := w.heap.size + 1) (o := 1) (v := .int .i64 (0)) (by simp [go_sem])
    have f3 := hx1.free (b := w.heap.size + 1) (o := 1) (by simp <;> omega) (by simp [go_sem])
    have l0 := cell_lt c0
    have l1 := cell_lt c2
    have x1 : Ext w w1 := Ext.trans (((Ext.refl w).alloc _).alloc _ |>.alloc _) hx1
    clear hx1
    go_wp2_with fail
    refine (to_any _ _ _).mono ?_
    rintro e w2 ⟨rfl, hx2⟩
    replace f0 := hx2.free (cell_lt c0) f0
    replace c0 := hx2.cell c0
    replace f1 := hx2.free (cell_lt c1) f1
    replace c1 := hx2.cell c1
    replace f2 := hx2.free (cell_lt c2) f2
    replace c2 := hx2.cell c2
    replace f3 := hx2.free (cell_lt c3) f3
    replace c3 := hx2.cell c3
    have l0 := cell_lt c0
    have l1 := cell_lt c2
    replace x1 := x1.trans hx2
    clear hx2
    go_wp2
    refine bodyPost_ret (v := pl (p) (q)) (by simp [results, Tryz.results58, go_sem, c0, c1, c2, c3]) rfl ⟨rfl, ?_⟩
    repeat (first | exact x1 | exact Ext.refl _ | refine Ext.setCell ?_ (by simp) _ | refine Ext.alloc ?_ _)
  all_goals simp [go_sem, hp, hq]

theorem removed_yes (n a p q : Int) (w : World) (hn : okI n) (ha : okI a) (hp : okI p) (hq : okI q) (e0 : n = p) (e1 : q < a) :
    Calls Tryz.prog 58 #[pl n a, .int .i64 p, .int .i64 q, .bool false] w (RPlace (n) (a - 1) w) := by
  have kn := hn.1
  have mn := hn.2
  have ka := ha.1
  have ma := ha.2
  have kp := hp.1
  have mp := hp.2
  have kq := hq.1
  have mq := hq.2
  have E0 := qh e0
  clear e0
  have E1 := qh e1
  clear e1
  go_enter Tryz.func58, Tryz.ntmps58
  go_wp2_with fail
  refine (fit_yes _ _ _ [p, q] _ _ _ rfl rfl (by simp) (by simp) hn ha ?_ (cells_2 ?_ ?_)).mono ?_
  rotate_right
  · rintro e w1 ⟨rfl, hx1⟩
    have c0 := hx1.cell (b := w.heap.size) (o := 0) (v := .int .i64 (n)) (by simp [go_sem])
    have f0 := hx1.free (b := w.heap.size) (o := 0) (by simp <;> omega) (by simp [go_sem])
    have c1 := hx1.cell (b := w.heap.size) (o := 1) (v := .int .i64 (a)) (by simp [go_sem])
    have f1 := hx1.free (b := w.heap.size) (o := 1) (by simp <;> omega) (by simp [go_sem])
    have c2 := hx1.cell (b := w.heap.size + 1) (o := 0) (v := .int .i64 (0)) (by simp [go_sem])
    have f2 := hx1.free (b := w.heap.size + 1) (o := 0) (by simp <;> omega) (by simp [go_sem])
    have c3 := hx1.cell (b := w.heap.size + 1) (o := 1) (v := .int .i64 (0)) (by simp [go_sem])
    have f3 := hx1.free (b := w.heap.size + 1) (o := 1) (by simp <;> omega) (by simp [go_sem])
    have l0 := cell_lt c0
    have l1 := cell_lt c2
    have x1 : Ext w w1 := Ext.trans (((Ext.refl w).alloc _).alloc _ |>.alloc _) hx1
    clear hx1
    go_wp2_with fail
    refine (above_yes _ E0.out E1.out).mono ?_
    rintro e w2 ⟨rfl, hx2⟩
    replace f0 := hx2.free (cell_lt c0) f0
    replace c0 := hx2.cell c0
    replace f1 := hx2.free (cell_lt c1) f1
    replace c1 := hx2.cell c1
    replace f2 := hx2.free (cell_lt c2) f2
    replace c2 := hx2.cell c2
    replace f3 := hx2.free (cell_lt c3) f3
    replace c3 := hx2.cell c3
    have l0 := cell_lt c0
    have l1 := cell_lt c2
    replace x1 := x1.trans hx2
    clear hx2
    go_wp2
    refine bodyPost_ret (v := pl (n) (a - 1)) (by simp [results, Tryz.results58, go_sem, c0, c1, c2, c3]) rfl ⟨rfl, ?_⟩
    repeat (first | exact x1 | exact Ext.refl _ | refine Ext.setCell ?_ (by simp) _ | refine Ext.alloc ?_ _)
  all_goals simp [go_sem, hp, hq]

theorem removed_no (n a p q : Int) (w : World) (hn : okI n) (ha : okI a) (hp : okI p) (hq : okI q) (e0 : ¬ (n = p ∧ q < a)) :
    Calls Tryz.prog 58 #[pl n a, .int .i64 p, .int .i64 q, .bool false] w (RPlace (n) (a) w) := by
  have kn := hn.1
  have mn := hn.2
  have ka := ha.1
  have ma := ha.2
  have kp := hp.1
  have mp := hp.2
  have kq := hq.1
  have mq := hq.2
  have E0 := qh e0
  clear e0
  go_enter Tryz.func58, Tryz.ntmps58
  go_wp2_with fail
  refine (fit_yes _ _ _ [p, q] _ _ _ rfl rfl (by simp) (by simp) hn ha ?_ (cells_2 ?_ ?_)).mono ?_
  rotate_right
  · rintro e w1 ⟨rfl, hx1⟩
    have c0 := hx1.cell (b := w.heap.size) (o := 0) (v := .int .i64 (n)) (by simp [go_sem])
    have f0 := hx1.free (b := w.heap.size) (o := 0) (by simp <;> omega) (by simp [go_sem])
    have c1 := hx1.cell (b := w.heap.size) (o := 1) (v := .int .i64 (a)) (by simp [go_sem])
    have f1 := hx1.free (b := w.heap.size) (o := 1) (by simp <;> omega) (by simp [go_sem])
    have c2 := hx1.cell (b := w.heap.size + 1) (o := 0) (v := .int .i64 (0)) (by simp [go_sem])
    have f2 := hx1.free (b := w.heap.size + 1) (o := 0) (by simp <;> omega) (by simp [go_sem])
    have c3 := hx1.cell (b := w.heap.size + 1) (o := 1) (v := .int .i64 (0)) (by simp [go_sem])
    have f3 := hx1.free (b := w.heap.size + 1) (o := 1) (by simp <;> omega) (by simp [go_sem])
    have l0 := cell_lt c0
    have l1 := cell_lt c2
    have x1 : Ext w w1 := Ext.trans (((Ext.refl w).alloc _).alloc _ |>.alloc _) hx1
    clear hx1
    go_wp2_with fail
    refine (above_no _ E0.out).mono ?_
    rintro e w2 ⟨rfl, hx2⟩
    replace f0 := hx2.free (cell_lt c0) f0
    replace c0 := hx2.cell c0
    replace f1 := hx2.free (cell_lt c1) f1
    replace c1 := hx2.cell c1
    replace f2 := hx2.free (cell_lt c2) f2
    replace c2 := hx2.cell c2
    replace f3 := hx2.free (cell_lt c3) f3
    replace c3 := hx2.cell c3
    have l0 := cell_lt c0
    have l1 := cell_lt c2
    replace x1 := x1.trans hx2
    clear hx2
    go_wp2
    refine bodyPost_ret (v := pl (n) (a)) (by simp [results, Tryz.results58, go_sem, c0, c1, c2, c3]) rfl ⟨rfl, ?_⟩
    repeat (first | exact x1 | exact Ext.refl _ | refine Ext.setCell ?_ (by simp) _ | refine Ext.alloc ?_ _)
  all_goals simp [go_sem, hp, hq]

theorem replaced_no (n a p q c m : Int) (w : World) (hn : okI n) (ha : okI a) (hp : okI p) (hq : okI q) (hc : okI c) (hm : okI m) (e0 : ¬ (n = p ∧ q < a)) :
    Calls Tryz.prog 129 #[pl n a, .int .i64 p, .int .i64 q, .int .i64 c, .int .i64 m] w (RPlace (n) (a) w) := by
  have kn := hn.1
  have mn := hn.2
  have ka := ha.1
  have ma := ha.2
  have kp := hp.1
  have mp := hp.2
  have kq := hq.1
  have mq := hq.2
  have kc := hc.1
  have mc := hc.2
  have km := hm.1
  have mm := hm.2
  have E0 := qh e0
  clear e0
  go_enter Tryz.func129, Tryz.ntmps129
  go_wp2_with fail
  refine (fit_yes _ _ _ [p, q, c, m] _ _ _ rfl rfl (by simp) (by simp) hn ha ?_ (cells_4 ?_ ?_ ?_ ?_)).mono ?_
  rotate_right
  · rintro e w1 ⟨rfl, hx1⟩
    have c0 := hx1.cell (b := w.heap.size) (o := 0) (v := .int .i64 (n)) (by simp [go_sem])
    have f0 := hx1.free (b := w.heap.size) (o := 0) (by simp <;> omega) (by simp [go_sem])
    have c1 := hx1.cell (b := w.heap.size) (o := 1) (v := .int .i64 (a)) (by simp [go_sem])
    have f1 := hx1.free (b := w.heap.size) (o := 1) (by simp <;> omega) (by simp [go_sem])
    have c2 := hx1.cell (b := w.heap.size + 1) (o := 0) (v := .int .i64 (0)) (by simp [go_sem])
    have f2 := hx1.free (b := w.heap.size + 1) (o := 0) (by simp <;> omega) (by simp [go_sem])
    have c3 := hx1.cell (b := w.heap.size + 1) (o := 1) (v := .int .i64 (0)) (by simp [go_sem])
    have f3 := hx1.free (b := w.heap.size + 1) (o := 1) (by simp <;> omega) (by simp [go_sem])
    have l0 := cell_lt c0
    have l1 := cell_lt c2
    have x1 : Ext w w1 := Ext.trans (((Ext.refl w).alloc _).alloc _ |>.alloc _) hx1
    clear hx1
    go_wp2_with fail
    refine (above_no _ E0.out).mono ?_
    rintro e w2 ⟨rfl, hx2⟩
    replace f0 := hx2.free (cell_lt c0) f0
    replace c0 := hx2.cell c0
    replace f1 := hx2.free (cell_lt c1) f1
    replace c1 := hx2.cell c1
    replace f2 := hx2.free (cell_lt c2) f2
    replace c2 := hx2.cell c2
    replace f3 := hx2.free (cell_lt c3) f3
    replace c3 := hx2.cell c3
    have l0 := cell_lt c0
    have l1 := cell_lt c2
    replace x1 := x1.trans hx2
    clear hx2
    go_wp2
    refine bodyPost_ret (v := pl (n) (a)) (by simp [results, Tryz.results129, go_sem, c0, c1, c2, c3]) rfl ⟨rfl, ?_⟩
    repeat (first | exact x1 | exact Ext.refl _ | refine Ext.setCell ?_ (by simp) _ | refine Ext.alloc ?_ _)
  all_goals simp [go_sem, hp, hq, hc, hm]

theorem replaced_far (n a p q c m : Int) (w : World) (hn : okI n) (ha : okI a) (hp : okI p) (hq : okI q) (hc : okI c) (hm : okI m) (e0 : n = p) (e1 : q < a) (e2 : q + c < a) :
    Calls Tryz.prog 129 #[pl n a, .int .i64 p, .int .i64 q, .int .i64 c, .int .i64 m] w (RPlace (p) (a + m - c) w) := by
  have kn := hn.1
  have mn := hn.2
  have ka := ha.1
  have ma := ha.2
  have kp := hp.1
  have mp := hp.2
  have kq := hq.1
  have mq := hq.2
  have kc := hc.1
  have mc := hc.2
  have km := hm.1
  have mm := hm.2
  have E0 := qh e0
  clear e0
  have E1 := qh e1
  clear e1
  have E2 := qh e2
  go_enter Tryz.func129, Tryz.ntmps129
  go_wp2_with fail
  refine (fit_yes _ _ _ [p, q, c, m] _ _ _ rfl rfl (by simp) (by simp) hn ha ?_ (cells_4 ?_ ?_ ?_ ?_)).mono ?_
  rotate_right
  · rintro e w1 ⟨rfl, hx1⟩
    have c0 := hx1.cell (b := w.heap.size) (o := 0) (v := .int .i64 (n)) (by simp [go_sem])
    have f0 := hx1.free (b := w.heap.size) (o := 0) (by simp <;> omega) (by simp [go_sem])
    have c1 := hx1.cell (b := w.heap.size) (o := 1) (v := .int .i64 (a)) (by simp [go_sem])
    have f1 := hx1.free (b := w.heap.size) (o := 1) (by simp <;> omega) (by simp [go_sem])
    have c2 := hx1.cell (b := w.heap.size + 1) (o := 0) (v := .int .i64 (0)) (by simp [go_sem])
    have f2 := hx1.free (b := w.heap.size + 1) (o := 0) (by simp <;> omega) (by simp [go_sem])
    have c3 := hx1.cell (b := w.heap.size + 1) (o := 1) (v := .int .i64 (0)) (by simp [go_sem])
    have f3 := hx1.free (b := w.heap.size + 1) (o := 1) (by simp <;> omega) (by simp [go_sem])
    have l0 := cell_lt c0
    have l1 := cell_lt c2
    have x1 : Ext w w1 := Ext.trans (((Ext.refl w).alloc _).alloc _ |>.alloc _) hx1
    clear hx1
    go_wp2_with fail
    refine (above_yes _ E0.out E1.out).mono ?_
    rintro e w2 ⟨rfl, hx2⟩
    replace f0 := hx2.free (cell_lt c0) f0
    replace c0 := hx2.cell c0
    replace f1 := hx2.free (cell_lt c1) f1
    replace c1 := hx2.cell c1
    replace f2 := hx2.free (cell_lt c2) f2
    replace c2 := hx2.cell c2
    replace f3 := hx2.free (cell_lt c3) f3
    replace c3 := hx2.cell c3
    have l0 := cell_lt c0
    have l1 := cell_lt c2
    replace x1 := x1.trans hx2
    clear hx2
    go_wp2_with fail
    refine (to_any _ _ _).mono ?_
    rintro e w3 ⟨rfl, hx3⟩
    replace f0 := hx3.free (cell_lt c0) f0
    replace c0 := hx3.cell c0
    replace f1 := hx3.free (cell_lt c1) f1
    replace c1 := hx3.cell c1
    replace f2 := hx3.free (cell_lt c2) f2
    replace c2 := hx3.cell c2
    replace f3 := hx3.free (cell_lt c3) f3
    replace c3 := hx3.cell c3
    have l0 := cell_lt c0
    have l1 := cell_lt c2
    replace x1 := x1.trans hx3
    clear hx3
    go_wp2
    refine bodyPost_ret (v := pl (p) (a + m - c)) (by simp [results, Tryz.results129, go_sem, c0, c1, c2, c3]) rfl ⟨rfl, ?_⟩
    repeat (first | exact x1 | exact Ext.refl _ | refine Ext.setCell ?_ (by simp) _ | refine Ext.alloc ?_ _)
  all_goals simp [go_sem, hp, hq, hc, hm]

theorem replaced_mid (n a p q c m : Int) (w : World) (hn : okI n) (ha : okI a) (hp : okI p) (hq : okI q) (hc : okI c) (hm : okI m) (e0 : n = p) (e1 : q < a) (e2 : ¬ q + c < a) :
    Calls Tryz.prog 129 #[pl n a, .int .i64 p, .int .i64 q, .int .i64 c, .int .i64 m] w (RPlace (p) (q) w) := by
  have kn := hn.1
  have mn := hn.2
  have ka := ha.1
  have ma := ha.2
  have kp := hp.1
  have mp := hp.2
  have kq := hq.1
  have mq := hq.2
  have kc := hc.1
  have mc := hc.2
  have km := hm.1
  have mm := hm.2
  have E0 := qh e0
  clear e0
  have E1 := qh e1
  clear e1
  have E2 := qh e2
  go_enter Tryz.func129, Tryz.ntmps129
  go_wp2_with fail
  refine (fit_yes _ _ _ [p, q, c, m] _ _ _ rfl rfl (by simp) (by simp) hn ha ?_ (cells_4 ?_ ?_ ?_ ?_)).mono ?_
  rotate_right
  · rintro e w1 ⟨rfl, hx1⟩
    have c0 := hx1.cell (b := w.heap.size) (o := 0) (v := .int .i64 (n)) (by simp [go_sem])
    have f0 := hx1.free (b := w.heap.size) (o := 0) (by simp <;> omega) (by simp [go_sem])
    have c1 := hx1.cell (b := w.heap.size) (o := 1) (v := .int .i64 (a)) (by simp [go_sem])
    have f1 := hx1.free (b := w.heap.size) (o := 1) (by simp <;> omega) (by simp [go_sem])
    have c2 := hx1.cell (b := w.heap.size + 1) (o := 0) (v := .int .i64 (0)) (by simp [go_sem])
    have f2 := hx1.free (b := w.heap.size + 1) (o := 0) (by simp <;> omega) (by simp [go_sem])
    have c3 := hx1.cell (b := w.heap.size + 1) (o := 1) (v := .int .i64 (0)) (by simp [go_sem])
    have f3 := hx1.free (b := w.heap.size + 1) (o := 1) (by simp <;> omega) (by simp [go_sem])
    have l0 := cell_lt c0
    have l1 := cell_lt c2
    have x1 : Ext w w1 := Ext.trans (((Ext.refl w).alloc _).alloc _ |>.alloc _) hx1
    clear hx1
    go_wp2_with fail
    refine (above_yes _ E0.out E1.out).mono ?_
    rintro e w2 ⟨rfl, hx2⟩
    replace f0 := hx2.free (cell_lt c0) f0
    replace c0 := hx2.cell c0
    replace f1 := hx2.free (cell_lt c1) f1
    replace c1 := hx2.cell c1
    replace f2 := hx2.free (cell_lt c2) f2
    replace c2 := hx2.cell c2
    replace f3 := hx2.free (cell_lt c3) f3
    replace c3 := hx2.cell c3
    have l0 := cell_lt c0
    have l1 := cell_lt c2
    replace x1 := x1.trans hx2
    clear hx2
    go_wp2_with fail
    refine (to_any _ _ _).mono ?_
    rintro e w3 ⟨rfl, hx3⟩
    replace f0 := hx3.free (cell_lt c0) f0
    replace c0 := hx3.cell c0
    replace f1 := hx3.free (cell_lt c1) f1
    replace c1 := hx3.cell c1
    replace f2 := hx3.free (cell_lt c2) f2
    replace c2 := hx3.cell c2
    replace f3 := hx3.free (cell_lt c3) f3
    replace c3 := hx3.cell c3
    have l0 := cell_lt c0
    have l1 := cell_lt c2
    replace x1 := x1.trans hx3
    clear hx3
    go_wp2
    refine bodyPost_ret (v := pl (p) (q)) (by simp [results, Tryz.results129, go_sem, c0, c1, c2, c3]) rfl ⟨rfl, ?_⟩
    repeat (first | exact x1 | exact Ext.refl _ | refine Ext.setCell ?_ (by simp) _ | refine Ext.alloc ?_ _)
  all_goals simp [go_sem, hp, hq, hc, hm]
def insA (n a p q m : Int) : Int := if n = p ∧ q < a then a + m else a
def remA (n a p q : Int) : Int := if n = p ∧ q < a then a - 1 else a
def repA (n a p q c m : Int) : Int := if n = p ∧ q < a then (if q + c < a then a + m - c else q) else a

theorem inserted_any (n a p q m : Int) (w : World) (hn : okI n) (ha : okI a) (hp : okI p) (hq : okI q) (hm : okI m) :
    Calls Tryz.prog 74 #[pl n a, .int .i64 p, .int .i64 q, .int .i64 m] w (RPlace n (insA n a p q m) w) := by
  by_cases h : n = p ∧ q < a
  · have e : insA n a p q m = a + m := if_pos h
    rw [e]; exact inserted_yes n a p q m w hn ha hp hq hm h.1 h.2
  · have e : insA n a p q m = a := if_neg h
    rw [e]; exact inserted_no n a p q m w hn ha hp hq hm h
theorem removed_any (n a p q : Int) (w : World) (hn : okI n) (ha : okI a) (hp : okI p) (hq : okI q) :
    Calls Tryz.prog 58 #[pl n a, .int .i64 p, .int .i64 q, .bool false] w (RPlace n (remA n a p q) w) := by
  by_cases h : n = p ∧ q < a
  · have e : remA n a p q = a - 1 := if_pos h
    rw [e]; exact removed_yes n a p q w hn ha hp hq h.1 h.2
  · have e : remA n a p q = a := if_neg h
    rw [e]; exact removed_no n a p q w hn ha hp hq h
theorem replaced_any (n a p q c m : Int) (w : World) (hn : okI n) (ha : okI a) (hp : okI p) (hq : okI q) (hc : okI c) (hm : okI m) :
    Calls Tryz.prog 129 #[pl n a, .int .i64 p, .int .i64 q, .int .i64 c, .int .i64 m] w (RPlace n (repA n a p q c m) w) := by
  by_cases h : n = p ∧ q < a
  · by_cases h' : q + c < a
    · have e : repA n a p q c m = a + m - c := by unfold repA; rw [if_pos h, if_pos h']
      have k := replaced_far n a p q c m w hn ha hp hq hc hm h.1 h.2 h'
      rw [e]; rw [← h.1] at k ⊢; exact k
    · have e : repA n a p q c m = q := by unfold repA; rw [if_pos h, if_neg h']
      have k := replaced_mid n a p q c m w hn ha hp hq hc hm h.1 h.2 h'
      rw [e]; rw [← h.1] at k ⊢; exact k
  · have e : repA n a p q c m = a := if_neg h
    rw [e]; exact replaced_no n a p q c m w hn ha hp hq hc hm h
end Go.Proofs.YthgnbbbdcebjhaaGreat
namespace Go.Proofs.YthgnbbbdcebjhaaGreat
open Go Go.RowKit Go.BigFrame
theorem Anew_any (s : ByteArray) (hs : s.size ≤ 100000) (w : World) : Calls Tryz.prog 85 #[.string s] w (RVal (.string (anewB s)) w) := by
  have h1 := run_runes_of_string (P := Tryz.prog) w 9 115 21 s Tryz.underlying9 Tryz.underlying115 Tryz.underlying21 (by have := size_runesFrom s s.size 0 #[]; simp at this; omega)
  have e1 : Conv.runesFrom s s.size 0 #[] = ((runeList s s.size 0).map (Value.int .i32)).toArray := by rw [runesFrom_eq]; simp
  have hz : anewB s = runesBytes (runeList s s.size 0) := rfl
  have HZ := qh hz
  rw [e1] at h1
  clear hz e1 hs
  generalize runeList s s.size 0 = l at *
  generalize hk : grownCap w (List.map (Value.int IntKind.i32) l).toArray.size 0 21 = K at *
  have hge := grownCap_ge w (List.map (Value.int IntKind.i32) l).toArray.size 0 21
  rw [hk] at hge
  clear hk
  generalize hC : (List.map (Value.int IntKind.i32) l).toArray ++ Array.replicate (K - (List.map (Value.int IntKind.i32) l).toArray.size) (Value.int IntKind.i32 0) = C at *
  have h2 := run_convert_runes (P := Tryz.prog) (w.drew.alloc (.cells C 21)) 115 9 21 ⟨w.heap.size, 0, none⟩ l.length K l (Nat.le_refl _) Tryz.underlying115 Tryz.underlying21 Tryz.underlying9
    (by
      intro j hj
      have hb : (w.drew.alloc (.cells C 21)).heap[w.heap.size]? = some (.cells C 21 (0, 0)) := heap_alloc_new w.drew _
      rw [Addr.add_lit, Nat.zero_add]
      refine cellOf hb ?_
      rw [← hC, Array.getElem?_append_left (by simpa using hj)]
      simp [hj])
  rw [List.take_length] at h2
  simp only [List.size_toArray, List.length_map] at h1
  clear hC hge
  have HH1 := qh h1
  have HH2 := qh h2
  clear h1 h2
  go_enter Tryz.func85, Tryz.ntmps85
  go_wp2_with fail
  rw [HH1.out]
  go_wp2_with fail
  have h2' : Sem.run Tryz.prog (convert 115 9 (Value.slice (some { block := w.heap.size, off := 0 }) l.length K)) (w.alloc (Obj.cells C 21)).drew = Result.ok (Value.string (runesBytes l)) (w.alloc (Obj.cells C 21)).drew := HH2.out
  rw [h2']
  clear h2'
  go_wp2_with fail
  go_ret
  exact ⟨by rw [HZ.out]; rfl, ((Ext.refl _).alloc _).drew⟩

structure Chg (F : Nat → Prop) (w w' : World) : Prop where
  os : w'.os = w.os
  tape : w'.tape = w.tape
  output : w'.output = w.output
  size : w.heap.size ≤ w'.heap.size
  rest : ∀ b, b < w.heap.size → ¬ F b → w'.heap[b]? = w.heap[b]?
theorem Chg.refl (F : Nat → Prop) (w : World) : Chg F w w := ⟨rfl, rfl, rfl, Nat.le_refl _, fun _ _ _ => rfl⟩
theorem Chg.trans {F : Nat → Prop} {a b c : World} (h : Chg F a b) (k : Chg F b c) : Chg F a c :=
  ⟨k.os.trans h.os, k.tape.trans h.tape, k.output.trans h.output, Nat.le_trans h.size k.size, fun x hx hn => (k.rest x (Nat.lt_of_lt_of_le hx h.size) hn).trans (h.rest x hx hn)⟩
theorem Chg.wide {F F' : Nat → Prop} {a b : World} (h : Chg F a b) (k : ∀ x, F x → F' x) : Chg F' a b :=
  ⟨h.os, h.tape, h.output, h.size, fun x hx hn => h.rest x hx fun hf => hn (k x hf)⟩
theorem Chg.ext {F : Nat → Prop} {a b : World} (h : Ext a b) : Chg F a b := ⟨h.os, h.tape, h.output, h.size, fun x hx _ => Below.block h x hx⟩
theorem Chg.set {F : Nat → Prop} {a b : World} (h : Chg F a b) {p : Addr} (hp : p.block < a.heap.size → F p.block) (u : Value) : Chg F a (b.setCell p u) :=
  ⟨h.os, h.tape, h.output, by simpa [World.setCell] using h.size, fun x hx hn => (heap_setCell_other (p := p) u (fun e => hn (by subst e; exact hp hx))).trans (h.rest x hx hn)⟩
theorem Chg.block {F : Nat → Prop} {a b : World} (h : Chg F a b) {x : Nat} {o : Obj} (hx : a.heap[x]? = some o) (hn : ¬ F x) : b.heap[x]? = some o :=
  (h.rest x (Array.getElem?_eq_some_iff.1 hx).1 hn).trans hx
theorem Chg.cell {F : Nat → Prop} {a b : World} (h : Chg F a b) {q : Addr} {y : Value} (hq : a.cell? q = some y) (hn : ¬ F q.block) : b.cell? q = some y :=
  (World.cell?_of_block (h.rest q.block (World.block_lt_of_cell? a q hq) hn)).trans hq
theorem Size_any {w0 : World} : ∀ (n : PN) (nv : Value) (w : World), n.size ≤ 100000 → RdN w0 n nv → Ext w0 w → Calls Tryz.prog 22 #[nv] w (RVal (.int .i64 n.size) w) := by
  refine PN.induct _ fun n ih nv w hsz hr hx => ?_
  have hnl := n.len_size
  have hse := n.size_eq
  obtain ⟨av, kv, rfl, ha, hk⟩ := hr.open
  obtain ⟨aa, acap, rfl, hac⟩ := ha.len_of
  obtain ⟨ka, kcap, rfl, hkc, hkm, hkn, hkr⟩ := hk
  have x1 := (Ext.refl w).alloc (.cells #[.int .i64 n.tag, .slice aa n.attrs.length acap, .string n.text, .slice ka n.kids.length kcap] 35)
  have hbox := heap_alloc_new w (.cells #[.int .i64 n.tag, .slice aa n.attrs.length acap, .string n.text, .slice ka n.kids.length kcap] 35)
  have HKR := qh hkr
  have HKN := qh hkn
  have HX := qh hx
  have HX1 := qh x1
  have IH := qh ih
  unfold maxLen at hkm
  clear hkr hkn hx ih hr ha x1
  have HSE := qh hse
  have HSZ := qh hsz
  replace hnl : n.kids.length ≤ 100000 := by omega
  clear hse hsz
  go_enter Tryz.func22, Tryz.ntmps22
  go_upto_region 1 with fail
  obtain ⟨wb, hwb⟩ : ∃ wb : World, wb = w.alloc (.cells #[.int .i64 n.tag, .slice aa n.attrs.length acap, .string n.text, .slice ka n.kids.length kcap] 35) := ⟨_, rfl⟩
  rw [← hwb] at hbox HX1 ⊢
  clear hwb
  have k3 := cellOf hbox (i := 3) (v := .slice ka n.kids.length kcap) rfl
  clear hbox
  go_wp2_with fail
  go_loopw [3, 4] (fun c i wr => ∃ k : Nat, k ≤ n.kids.length ∧ i = .int .i64 k ∧ c = .int .i64 ((1 + PN.sizes (n.kids.take k) : Nat) : Int) ∧ Ext wb wr) (fun _ i _ => n.kids.length - (intOf i).toNat)
  case atStart => exact ⟨0, Nat.zero_le _, rfl, by simp [PN.sizes], Ext.refl _⟩
  case round =>
    obtain ⟨k, hk, rfl, rfl, xr⟩ := hrel
    have HXR := qh xr
    replace k3 := xr.cell k3
    clear xr
    by_cases hkk : k < n.kids.length
    · obtain ⟨x, hx⟩ : ∃ x, n.kids[k]? = some x := ⟨n.kids[k], by simp [hkk]⟩
      cases ka with
      | none => exact absurd (HKN.out rfl).1 (by omega)
      | some a =>
        obtain ⟨b, off, sp⟩ := a
        obtain ⟨c0', c1', c2', c3', q0, q1, q2, q3, hrd⟩ := HKR.out _ rfl k x hx
        have hxx : Ext w0 wr := (HX.out.trans HX1.out).trans HXR.out
        replace q0 := hxx.cells _ _ q0
        replace q1 := hxx.cells _ _ q1
        replace q2 := hxx.cells _ _ q2
        replace q3 := hxx.cells _ _ q3
        rw [add_later _ _ _ (by decide)] at q1 q2 q3
        have htk := sizes_take_succ hx
        have hle := sizes_take n.kids (k + 1)
        have htk2 : PN.sizes (n.kids.take (k + 1)) = PN.sizes (n.kids.take k) + x.size := by
          obtain ⟨hlt', hxe⟩ := List.getElem?_eq_some_iff.1 hx
          rw [List.take_succ_eq_append_getElem hlt', hxe, sizes_append]; simp [PN.sizes]
        have h1 := HSE.out
        have h2 := HSZ.out
        have hrec := IH.out x (List.mem_of_getElem? hx) _ wr (by omega) hrd hxx
        have hb1 : 1 + PN.sizes (n.kids.take k) ≤ 100000 := by omega
        have hb2 : x.size ≤ 100000 := by omega
        have HREC := qh hrec
        have HTK := qh htk2
        clear hx hrd hrec hxx htk hle htk2 h1 h2
        generalize hs : 1 + PN.sizes (n.kids.take k) = S at *
        have HS := qh hs
        clear hs
        go_wp2_with fail
        refine HREC.out.mono ?_
        rintro e w' ⟨rfl, p4⟩
        generalize hs2 : x.size = X at *
        have HS2 := qh hs2
        clear hs2
        go_wp2_with fail
        go_roundw
        case rel => exact ⟨k + 1, by omega, by go_num, by rw [HTK.out, ← Nat.add_assoc, HS.out]; push_cast; rfl, HXR.out.trans p4⟩
        case measure => simp [intOf]; omega
    · obtain rfl : k = n.kids.length := by omega
      generalize hs : 1 + PN.sizes (n.kids.take n.kids.length) = S at *
      have HS := qh hs
      clear hs
      go_wp2_with fail
      go_ret
      refine ⟨?_, HX1.out.trans HXR.out⟩
      have e : 1 + PN.sizes (n.kids.take n.kids.length) = n.size := by rw [List.take_length]; have := HSE.out; omega
      rw [← HS.out, e]
      rfl
end Go.Proofs.YthgnbbbdcebjhaaGreat
namespace Go.Proofs.YthgnbbbdcebjhaaGreat.Tail
open Go Go.RowKit Go.BigFrame
section
variable {P : Program} {ops : Array Oper} {md : Region.Mode} {C : World → Prop}
def wpAnyLQ (P : Program) (md : Region.Mode) (ops : Array Oper) (C : World → Prop) (n : Nat) (L : Array Bool → Act → Prop) : Nat → Array Bool → Act → Prop
  | 0, listed, a => L listed a
  | f + 1, listed, a => Region.ready md ops listed ≠ [] ∧ ∀ i ∈ Region.ready md ops listed, i < n ∧ qOp P ops C i (wpAnyLQ P md ops C n L f (listed.setIfInBounds i true)) a
theorem wpAny_of_headQ {n g : Nat} {L : Array Bool → Act → Prop} {Q' : Exit → Act → World → Prop} (hL : ∀ listed a w, C w → L listed a → wpAny P md ops Q' g listed a w) :
    ∀ (f : Nat) (listed : Array Bool) (a : Act) (w : World), C w → wpAnyLQ P md ops C n L f listed a → wpAny P md ops Q' (f + g) listed a w
  | 0, listed, a, w, hw, h => by rw [Nat.zero_add]; exact hL _ _ w hw h
  | f + 1, listed, a, w, hw, h => by
    rw [show f + 1 + g = (f + g) + 1 by omega]
    exact ⟨fun h0 => absurd h0 h.1, fun i hi => wpOp_of_qOp hw (fun a' w' hw' h' => wpAny_of_headQ hL f _ a' w' hw' h') (h.2 i hi).2⟩
theorem wpAnyLQ_first {n i : Nat} {oi : Oper} {v : Value} {L : Array Bool → Act → Prop} (hi : ops[i]? = some oi) (hsel : ∀ (j : Nat) (o : Oper) cs b, ops[j]? = some o → o.op ≠ .select cs b)
    (hs : Region.sinkB md ops n = true) (hc : Region.chainB md ops n = true) (hn : n < ops.size) (hin : i < n)
    (hdone : ∀ listed a, L listed a → ∀ j ∈ Region.ready md ops listed, n ≤ j) :
    ∀ (f : Nat) (listed : Array Bool) (a : Act), HeadInv md ops n listed →
      (∀ j oj, ops[j]? = some oj → j ≠ i → listed.getD j true = false → (∀ e ∈ oj.after, Region.binds md e = true → e.on ≠ i) → oi.apart ops oj = true) →
      i ∈ Region.ready md ops listed → YieldsIn P ops C oi v a →
      wpAnyLQ P md ops C n L f (listed.setIfInBounds i true) (a.put oi.dst v) → wpAnyLQ P md ops C n L (f + 1) listed a := by
  intro f
  induction f with
  | zero =>
    intro listed a inv _ hr hy H
    have hun := (mem_ready.1 hr).1
    refine ⟨fun h => (by rw [h] at hr; cases hr), fun j hj => ?_⟩
    have hjn : j < n := by
      rcases Nat.lt_or_ge j n with h | h
      · exact h
      · exact absurd hj (tail_waits hs hc hn inv _ i rfl hin hun j h)
    refine ⟨hjn, ?_⟩
    by_cases hji : j = i
    · subst hji; exact hy.qOp hi H
    · have := hdone _ _ H j (ready_mono hj hji)
      omega
  | succ f ih =>
    intro listed a inv hfree hr hy H
    have hun := (mem_ready.1 hr).1
    refine ⟨fun h => (by rw [h] at hr; cases hr), fun j hj => ?_⟩
    have hjn : j < n := by
      rcases Nat.lt_or_ge j n with h | h
      · exact h
      · exact absurd hj (tail_waits hs hc hn inv _ i rfl hin hun j h)
    refine ⟨hjn, ?_⟩
    by_cases hji : j = i
    · subst hji; exact hy.qOp hi H
    · have h1 := (H.2 j (ready_mono hj hji)).2
      obtain ⟨hjun, oj, hoj, hall⟩ := mem_ready.1 hj
      have hnot : ∀ e ∈ oj.after, Region.binds md e = true → e.on ≠ i := fun e he hb heq => by
        have h1 := hall e he hb
        rw [heq, getD_both hun] at h1
        cases h1
      have h2 := qOp_put hoj (hfree j oj hoj hji hjun hnot) (fun cs b => hsel i oi cs b hi) (fun cs b => hsel j oj cs b hoj) hy h1
      have hfree' : ∀ k ok, ops[k]? = some ok → k ≠ i → (listed.setIfInBounds j true).getD k true = false →
          (∀ e ∈ ok.after, Region.binds md e = true → e.on ≠ i) → oi.apart ops ok = true := fun k ok hk hki hun hno => by
        refine hfree k ok hk hki ?_ hno
        by_cases hjk : j = k
        · subst hjk; exact hjun
        · rw [getD_set_ne true hjk] at hun; exact hun
      refine qOp_mono (fun a' h3 => ih (listed.setIfInBounds j true) a' (inv.set hj hjn) hfree' (ready_mono hr (Ne.symm hji)) h3.1 ?_) h2
      rw [Array.setIfInBounds_comm _ _ hji]
      exact h3.2
theorem wpAnyLQ_lex {n g : Nat} {Lq : Act → Prop} (hsel : Region.noSelect ops = true) (hs : Region.sinkB md ops n = true) (hc : Region.chainB md ops n = true) (hn : n < ops.size) :
    ∀ (l : List Oper) (k : Nat) (listed : Array Bool) (a : Act), (∀ j, j < l.length → l[j]? = ops[k + j]?) → k + l.length = n → HeadInv md ops n listed →
    Region.lexHead md ops g l.length k listed = true → wpQuiet P ops C Lq l a →
    wpAnyLQ P md ops C n (fun listed' a' => Region.seqB md ops g n listed' = true ∧ Lq a') l.length listed a
  | [], k, listed, a, _, hk, _, hB, h => by
    have : k = n := by simpa using hk
    subst this
    exact ⟨by simpa [Region.lexHead] using hB, h⟩
  | o :: l, k, listed, a, hl, hk, inv, hB, h => by
    have h0 : ops[k]? = some o := by simpa using (hl 0 (by simp)).symm
    simp only [List.length_cons, Region.lexHead, Bool.and_eq_true] at hB
    obtain ⟨⟨hr, hf⟩, hB'⟩ := hB
    have hkn : k < n := by simp only [List.length_cons] at hk; omega
    have hr' : k ∈ Region.ready md ops listed := by simpa using hr
    have hst : qOp P ops C k (wpQuiet P ops C Lq l) a := by unfold qOp; simp only [h0]; exact h
    obtain ⟨v, hy, hK⟩ := yieldsIn_of_qOp h0 hst
    exact wpAnyLQ_first h0 (Region.noSelect_spec hsel) hs hc hn hkn (fun listed' a' hL => seqB_ready hL.1) l.length listed a inv (Region.free_spec h0 hf) hr' hy
      (wpAnyLQ_lex hsel hs hc hn l (k + 1) _ _ (fun j hj => by have := hl (j + 1) (by simp; omega); simpa [Nat.add_assoc, Nat.add_comm 1 j] using this) (by simp only [List.length_cons] at hk; omega) (inv.set hr' hkn) hB' hK)
theorem wp_region_quiet_tail {id : Nat} {Q : Exit → Act → World → Prop} {a : Act} {w : World} {l : List Oper} (n : Nat) (hm : P.follows .mixedOrders = true) (hB : Region.lexTailB .any l.toArray n = true) (hC : C w.drew)
    (h : wpQuiet P l.toArray C (fun a' => ∀ w', C w' → wpList P l.toArray Q (l.drop n) a' w') (l.take n) a) : (Code.region id l.toArray true).wp P Q a w := by
  simp only [Region.lexTailB, Bool.and_eq_true, decide_eq_true_eq] at hB
  obtain ⟨⟨⟨⟨hsel, hn⟩, hs⟩, hc⟩, hlex⟩ := hB
  have hn' : n < l.length := by simpa using hn
  have htl : (l.take n).length = n := by simp; omega
  have hdl : (l.drop n).length = l.toArray.size - n := by simp
  have inv0 : HeadInv .any l.toArray n (Array.replicate l.toArray.size false) :=
    ⟨by simp, fun j oj _ hl => (by rw [getD_replicate_false] at hl; cases hl), fun t _ ht => getD_in (by simpa using ht) (getD_replicate_false _ _)⟩
  have H := wpAnyLQ_lex (md := .any) (g := l.toArray.size - n) hsel hs hc hn (l.take n) 0 _ a (fun j hj => by
    have hj' : j < n := by rw [htl] at hj; exact hj
    simp [hj']) (by simpa using htl) inv0 (by rw [htl]; exact hlex) h
  refine wp_region_any hm ?_
  have := wpAny_of_headQ (Q' := Q) (g := l.toArray.size - n) (fun listed a' w' hw' hL => by
    have := wpAny_of_seq (md := .any) (Q' := Q) (l.drop n) n listed a' w' (fun j => by simp [List.getElem?_drop]) (by rw [hdl]; exact hL.1) (hL.2 w' hw')
    rwa [hdl] at this) _ _ _ w.drew hC H
  rw [htl, show n + (l.toArray.size - n) = l.toArray.size by omega] at this
  exact this
def afterB (md : Region.Mode) (ops : Array Oper) (n : Nat) : Bool := (List.range ops.size).all fun t => decide (t ≤ n) || (List.range t).any fun j => decide (n ≤ j) && Region.waitsFor md ops t j
theorem tail_waits2 {n : Nat} {listed : Array Bool} (hs : Region.sinkB md ops n = true) (hc : afterB md ops n = true) (hn : n < ops.size) (inv : HeadInv md ops n listed) :
    ∀ (d i : Nat), n - i = d → i < n → listed.getD i true = false → ∀ t, n ≤ t → t ∉ Region.ready md ops listed := by
  intro d
  induction d using Nat.strongRecOn with
  | _ d ih =>
    intro i hd hi hun t ht hr
    obtain ⟨_, ot, hot, hall⟩ := mem_ready.1 hr
    have htlt : t < ops.size := (Array.getElem?_eq_some_iff.1 hot).1
    by_cases htn : t = n
    · subst htn
      have h1 := List.all_eq_true.1 hs i (List.mem_range.2 hi)
      obtain ⟨j, hj, hj2⟩ := List.any_eq_true.1 h1
      simp only [Bool.and_eq_true, decide_eq_true_eq] at hj2
      obtain ⟨oj, hoj, e, he, hb, hon⟩ := Region.waitsFor_spec hj2.2
      have hjle : j ≤ t := by have := List.mem_range.1 hj; omega
      by_cases hjt : j = t
      · subst hjt
        have : oj = ot := Option.some.inj (hoj.symm.trans hot)
        subst this
        have h2 := hall e he hb
        rw [hon, getD_both hun] at h2
        cases h2
      · cases hl : listed.getD j false with
        | true =>
          have h2 := inv.closed j oj hoj hl e he hb
          rw [hon, getD_both hun] at h2
          cases h2
        | false =>
          have hjs : j < listed.size := by rw [inv.size]; omega
          exact ih (t - j) (by omega) j rfl (by omega) (getD_in hjs hl) t (Nat.le_refl _) hr
    · have h1 := List.all_eq_true.1 hc t (List.mem_range.2 htlt)
      simp only [Bool.or_eq_true, decide_eq_true_eq] at h1
      rcases h1 with h1 | h1
      · omega
      · obtain ⟨j, hj, hj2⟩ := List.any_eq_true.1 h1
        simp only [Bool.and_eq_true, decide_eq_true_eq] at hj2
        have hjt := List.mem_range.1 hj
        obtain ⟨o', ho', e, he, hb, hon⟩ := Region.waitsFor_spec hj2.2
        have : o' = ot := Option.some.inj (ho'.symm.trans hot)
        subst this
        have h2 := hall e he hb
        rw [hon, getD_both (inv.tail j hj2.1 (by omega))] at h2
        cases h2
theorem wpAnyLQ_first2 {n i : Nat} {oi : Oper} {v : Value} {L : Array Bool → Act → Prop} (hi : ops[i]? = some oi) (hsel : ∀ (j : Nat) (o : Oper) cs b, ops[j]? = some o → o.op ≠ .select cs b)
    (hs : Region.sinkB md ops n = true) (hc : afterB md ops n = true) (hn : n < ops.size) (hin : i < n)
    (hdone : ∀ listed a, L listed a → ∀ j ∈ Region.ready md ops listed, n ≤ j) :
    ∀ (f : Nat) (listed : Array Bool) (a : Act), HeadInv md ops n listed →
      (∀ j oj, ops[j]? = some oj → j ≠ i → listed.getD j true = false → (∀ e ∈ oj.after, Region.binds md e = true → e.on ≠ i) → oi.apart ops oj = true) →
      i ∈ Region.ready md ops listed → YieldsIn P ops C oi v a →
      wpAnyLQ P md ops C n L f (listed.setIfInBounds i true) (a.put oi.dst v) → wpAnyLQ P md ops C n L (f + 1) listed a := by
  intro f
  induction f with
  | zero =>
    intro listed a inv _ hr hy H
    have hun := (mem_ready.1 hr).1
    refine ⟨fun h => (by rw [h] at hr; cases hr), fun j hj => ?_⟩
    have hjn : j < n := by
      rcases Nat.lt_or_ge j n with h | h
      · exact h
      · exact absurd hj (tail_waits2 hs hc hn inv _ i rfl hin hun j h)
    refine ⟨hjn, ?_⟩
    by_cases hji : j = i
    · subst hji; exact hy.qOp hi H
    · have := hdone _ _ H j (ready_mono hj hji)
      omega
  | succ f ih =>
    intro listed a inv hfree hr hy H
    have hun := (mem_ready.1 hr).1
    refine ⟨fun h => (by rw [h] at hr; cases hr), fun j hj => ?_⟩
    have hjn : j < n := by
      rcases Nat.lt_or_ge j n with h | h
      · exact h
      · exact absurd hj (tail_waits2 hs hc hn inv _ i rfl hin hun j h)
    refine ⟨hjn, ?_⟩
    by_cases hji : j = i
    · subst hji; exact hy.qOp hi H
    · have h1 := (H.2 j (ready_mono hj hji)).2
      obtain ⟨hjun, oj, hoj, hall⟩ := mem_ready.1 hj
      have hnot : ∀ e ∈ oj.after, Region.binds md e = true → e.on ≠ i := fun e he hb heq => by
        have h1 := hall e he hb
        rw [heq, getD_both hun] at h1
        cases h1
      have h2 := qOp_put hoj (hfree j oj hoj hji hjun hnot) (fun cs b => hsel i oi cs b hi) (fun cs b => hsel j oj cs b hoj) hy h1
      have hfree' : ∀ k ok, ops[k]? = some ok → k ≠ i → (listed.setIfInBounds j true).getD k true = false →
          (∀ e ∈ ok.after, Region.binds md e = true → e.on ≠ i) → oi.apart ops ok = true := fun k ok hk hki hun hno => by
        refine hfree k ok hk hki ?_ hno
        by_cases hjk : j = k
        · subst hjk; exact hjun
        · rw [getD_set_ne true hjk] at hun; exact hun
      refine qOp_mono (fun a' h3 => ih (listed.setIfInBounds j true) a' (inv.set hj hjn) hfree' (ready_mono hr (Ne.symm hji)) h3.1 ?_) h2
      rw [Array.setIfInBounds_comm _ _ hji]
      exact h3.2
def lexMid (md : Region.Mode) (ops : Array Oper) (g : Nat) : Nat → Nat → Array Bool → Bool
  | 0, k, listed => decide (Region.ready md ops listed = [k]) && Region.lexFrom md ops g (k + 1) (listed.setIfInBounds k true)
  | f + 1, k, listed => (Region.ready md ops listed).contains k && Region.free md ops listed k && lexMid md ops g f (k + 1) (listed.setIfInBounds k true)
def midB (md : Region.Mode) (ops : Array Oper) (n : Nat) : Bool :=
  Region.noSelect ops && decide (n < ops.size) && Region.sinkB md ops n && afterB md ops n && lexMid md ops (ops.size - (n + 1)) n 0 (Array.replicate ops.size false)
theorem wpAnyLQ_mid {n g : Nat} {Lq : Act → Prop} (hsel : Region.noSelect ops = true) (hs : Region.sinkB md ops n = true) (hc : afterB md ops n = true) (hn : n < ops.size) :
    ∀ (l : List Oper) (k : Nat) (listed : Array Bool) (a : Act), (∀ j, j < l.length → l[j]? = ops[k + j]?) → k + l.length = n → HeadInv md ops n listed →
    lexMid md ops g l.length k listed = true → wpQuiet P ops C Lq l a →
    wpAnyLQ P md ops C n (fun listed' a' => (Region.ready md ops listed' = [n] ∧ Region.lexFrom md ops g (n + 1) (listed'.setIfInBounds n true) = true) ∧ Lq a') l.length listed a
  | [], k, listed, a, _, hk, _, hB, h => by
    have : k = n := by simpa using hk
    subst this
    exact ⟨by simpa [lexMid] using hB, h⟩
  | o :: l, k, listed, a, hl, hk, inv, hB, h => by
    have h0 : ops[k]? = some o := by simpa using (hl 0 (by simp)).symm
    simp only [List.length_cons, lexMid, Bool.and_eq_true] at hB
    obtain ⟨⟨hr, hf⟩, hB'⟩ := hB
    have hkn : k < n := by simp only [List.length_cons] at hk; omega
    have hr' : k ∈ Region.ready md ops listed := by simpa using hr
    have hst : qOp P ops C k (wpQuiet P ops C Lq l) a := by unfold qOp; simp only [h0]; exact h
    obtain ⟨v, hy, hK⟩ := yieldsIn_of_qOp h0 hst
    exact wpAnyLQ_first2 h0 (Region.noSelect_spec hsel) hs hc hn hkn (fun listed' a' hL => fun j hj => by rw [hL.1.1] at hj; have hjn2 : j = n := (by simpa using hj); omega) l.length listed a inv (Region.free_spec h0 hf) hr' hy
      (wpAnyLQ_mid hsel hs hc hn l (k + 1) _ _ (fun j hj => by have := hl (j + 1) (by simp; omega); simpa [Nat.add_assoc, Nat.add_comm 1 j] using this) (by simp only [List.length_cons] at hk; omega) (inv.set hr' hkn) hB' hK)
theorem wp_region_quiet_mid {C2 : World → World → Prop} (hC2 : ∀ w, C2 w w) {id : Nat} {Q : Exit → Act → World → Prop} {a : Act} {w : World} {l : List Oper} (n : Nat) (o : Oper) (ho : l[n]? = some o) (hm : P.follows .mixedOrders = true) (hB : midB .any l.toArray n = true) (hC : C w.drew)
    (h : wpQuiet P l.toArray C (fun a' => ∀ w', C w' → ∀ K : Act → World → Prop, (∀ a'' w'', wpQuiet P l.toArray (C2 w'') (fun a3 => ∀ w3, C2 w'' w3 → Q .normal a3 w3) (l.drop (n + 1)) a'' → K a'' w'') →
      if Region.wanted o (yielded l.toArray a'.tmps) = true then Oper.wp P o a' w' K Q else K (a'.put o.dst undef) w') (l.take n) a) : (Code.region id l.toArray true).wp P Q a w := by
  simp only [midB, Bool.and_eq_true, decide_eq_true_eq] at hB
  obtain ⟨⟨⟨⟨hsel, hn⟩, hs⟩, hc⟩, hlex⟩ := hB
  have hn' : n < l.length := by simpa using hn
  have htl : (l.take n).length = n := by simp; omega
  have inv0 : HeadInv .any l.toArray n (Array.replicate l.toArray.size false) :=
    ⟨by simp, fun j oj _ hl => (by rw [getD_replicate_false] at hl; cases hl), fun t _ ht => getD_in (by simpa using ht) (getD_replicate_false _ _)⟩
  have H := wpAnyLQ_mid (md := .any) (g := l.toArray.size - (n + 1)) hsel hs hc hn (l.take n) 0 _ a (fun j hj => by
    have hj' : j < n := by rw [htl] at hj; exact hj
    simp [hj']) (by simpa using htl) inv0 (by rw [htl]; exact hlex) h
  refine wp_region_any hm ?_
  have hdl : (l.drop (n + 1)).length = l.toArray.size - (n + 1) := by simp
  have := wpAny_of_headQ (Q' := Q) (g := l.toArray.size - (n + 1) + 1) (fun listed a' w' hw' hL => by
    obtain ⟨⟨hr, hlx⟩, hq⟩ := hL
    refine ⟨fun h0 => (by rw [hr] at h0; cases h0), fun i hi => ?_⟩
    rw [hr] at hi
    obtain rfl : i = n := by simpa using hi
    refine wpOp_step (o := o) (by simpa using ho) fun K' hK' => hq w' hw' K' fun a'' w'' hq2 => hK' _ _ ?_
    have h2 := wpAnyQ_lex (C := C2 w'') (md := .any) hsel (l.drop (i + 1)) (i + 1) (listed.setIfInBounds i true) a'' (fun j => by simp [List.getElem?_drop]) (by rw [hdl]; exact hlx) hq2
    rw [hdl] at h2
    exact wpAny_of_quiet (Q := fun a3 => ∀ w3, C2 w'' w3 → Q .normal a3 w3) (fun _ w3 hw3 hh => hh w3 hw3) _ _ _ w'' (hC2 w'') h2) _ _ _ w.drew hC H
  rw [htl, show n + (l.toArray.size - (n + 1) + 1) = l.toArray.size by omega] at this
  exact this
end
end Go.Proofs.YthgnbbbdcebjhaaGreat.Tail
namespace Go.Proofs.YthgnbbbdcebjhaaGreat
open Go Go.RowKit Go.BigFrame
theorem wp_region_ext_tail {P : Program} {id : Nat} {Q : Exit → Act → World → Prop} {a : Act} {w : World} {l : List Oper} (n : Nat) (hm : P.follows .mixedOrders = true) (hB : Region.lexTailB .any l.toArray n = true)
    (h : wpQuiet P l.toArray (fun w' => ∃ u : ExtOf w, w' = u.val) (fun a' => ∀ w', (∃ u : ExtOf w, w' = u.val) → wpList P l.toArray Q (l.drop n) a' w') (l.take n) a) : (Code.region id l.toArray true).wp P Q a w :=
  Tail.wp_region_quiet_tail (C := fun w' => ∃ u : ExtOf w, w' = u.val) n hm hB ⟨⟨w.drew, (Ext.refl w).drew⟩, rfl⟩ h
theorem wp_region_ext_mid {P : Program} {id : Nat} {Q : Exit → Act → World → Prop} {a : Act} {w : World} {l : List Oper} (n : Nat) (o : Oper) (ho : l[n]? = some o) (hm : P.follows .mixedOrders = true) (hB : Tail.midB .any l.toArray n = true)
    (h : wpQuiet P l.toArray (fun w' => ∃ u : ExtOf w, w' = u.val) (fun a' => ∀ w', (∃ u : ExtOf w, w' = u.val) → ∀ K : Act → World → Prop, (∀ a'' w'', wpQuiet P l.toArray (fun w3 => ∃ u : ExtOf w'', w3 = u.val) (fun a3 => ∀ w3, (∃ u : ExtOf w'', w3 = u.val) → Q .normal a3 w3) (l.drop (n + 1)) a'' → K a'' w'') →
      if Region.wanted o (yielded l.toArray a'.tmps) = true then Oper.wp P o a' w' K Q else K (a'.put o.dst undef) w') (l.take n) a) : (Code.region id l.toArray true).wp P Q a w :=
  Tail.wp_region_quiet_mid (C := fun w' => ∃ u : ExtOf w, w' = u.val) (C2 := fun w'' w3 => ∃ u : ExtOf w'', w3 = u.val) (fun w => ⟨⟨w, Ext.refl w⟩, rfl⟩) n o ho hm hB ⟨⟨w.drew, (Ext.refl w).drew⟩, rfl⟩ h
theorem none_some {w : World} {b : Nat} {a : Addr} (h : w.cell? ⟨b, 0, none⟩ = some (.pointer (some a))) : Calls Tryz.prog 47 #[.pointer (some ⟨b, 0, none⟩)] w (RSame (.bool false) w) := by
  go_enter Tryz.func47, Tryz.ntmps47
  go_wp2_with fail
  go_ret
  exact ⟨rfl, rfl⟩
structure Mv (S : Nat → Prop) (w w' : World) : Prop where
  os : w'.os = w.os
  tape : w'.tape = w.tape
  output : w'.output = w.output
  size : w.heap.size ≤ w'.heap.size
  rest : ∀ b, b < w.heap.size → ¬ S b → w'.heap[b]? = w.heap[b]?
theorem Mv.ofExt {S : Nat → Prop} {w w' : World} (h : Ext w w') : Mv S w w' := ⟨Below.os h, Below.tape h, Below.output h, Ext.size h, fun b hb _ => Below.block h b hb⟩
theorem Mv.refl (S : Nat → Prop) (w : World) : Mv S w w := Mv.ofExt (Ext.refl w)
theorem Mv.trans {S : Nat → Prop} {a b c : World} (h : Mv S a b) (k : Mv S b c) : Mv S a c :=
  ⟨k.os.trans h.os, k.tape.trans h.tape, k.output.trans h.output, Nat.le_trans h.size k.size, fun x hx hn => (k.rest x (Nat.lt_of_lt_of_le hx h.size) hn).trans (h.rest x hx hn)⟩
theorem Mv.ext {S : Nat → Prop} {a b c : World} (h : Mv S a b) (k : Ext b c) : Mv S a c := h.trans (Mv.ofExt k)
theorem Mv.imp {S S' : Nat → Prop} {a b : World} (h : Mv S a b) (k : ∀ x, x < a.heap.size → S x → S' x) : Mv S' a b := ⟨h.os, h.tape, h.output, h.size, fun x hx hn => h.rest x hx fun hs => hn (k x hx hs)⟩
theorem Mv.block {S : Nat → Prop} {w w' : World} (h : Mv S w w') {b : Nat} {x : Obj} (hb : w.heap[b]? = some x) (hn : ¬ S b) : w'.heap[b]? = some x := (h.rest b (Array.getElem?_eq_some_iff.1 hb).1 hn).trans hb
theorem Mv.setCell {S : Nat → Prop} {a b : World} (h : Mv S a b) {p : Addr} (hp : p.block < a.heap.size → S p.block) (u : Value) : Mv S a (b.setCell p u) :=
  ⟨h.os, h.tape, h.output, by have := h.size; simpa [World.setCell] using this, fun x hx hn => by
    have hne : x ≠ p.block := fun e => hn (by rw [e]; exact hp (e ▸ hx))
    exact (heap_setCell_other u hne).trans (h.rest x hx hn)⟩
theorem Mv.grown {S : Nat → Prop} {a w w' : World} {row : Option Nat} (h : Mv S a w) (hg : w.grownBy w' row) (hr : ∀ k, row = some k → k < a.heap.size → S k) : Mv S a w' :=
  ⟨hg.os.trans h.os, hg.tape.trans h.tape, hg.output.trans h.output, Nat.le_trans h.size hg.size, fun x hx hn => (hg.block x (Nat.lt_of_lt_of_le hx h.size) fun e => hn (hr x e.symm hx)).trans (h.rest x hx hn)⟩
theorem Mv.cell {S : Nat → Prop} {w w' : World} (h : Mv S w w') {b o : Nat} {v : Value} (hc : w.cell? ⟨b, o, none⟩ = some v) (hn : ¬ S b) : w'.cell? ⟨b, o, none⟩ = some v := by
  have := h.rest b (cell_lt hc) hn
  unfold World.cell? at hc ⊢
  simp only at hc ⊢
  rw [this]; exact hc
theorem RowP.mv {S : Nat → Prop} {w w' : World} {p : Nat → Prop} {e size : Nat} {v : Value} {n : Nat} {xs : List Value} (h : RowP w p e size v n xs) (k : Mv S w w') (hp : ∀ g, p g → ¬ S g) : RowP w' p e size v n xs := by
  refine ⟨h.1, ?_⟩
  rcases h.2 with h0 | ⟨g, cap, cur, h1, h2, h3, h4⟩
  · exact .inl h0
  · exact .inr ⟨g, cap, cur, h1, h2, k.block h3 (hp g h2), h4⟩
theorem Step.mv {own own' : Ow} {w w' : World} (k : Step own w own' w') : Mv (fun b => own b ≠ none) w w' := ⟨k.os, k.tape, k.output, k.size, fun b hb hn => k.rest b hb (Decidable.byContradiction hn)⟩
structure Hd where
  node : Int
  at' : Int
  off : Int
def hdC (h : Hd) : List Value := [.int .i64 h.node, .int .i64 h.at', .int .i64 h.off]
theorem hdC_len (h : Hd) : (hdC h).length = 3 := rfl
def hcells (H : List Hd) : List Value := H.flatMap hdC
theorem hcells_len (H : List Hd) : (hcells H).length = H.length * 3 := by
  induction H with
  | nil => rfl
  | cons p L ih =>
    show (hdC p ++ hcells L).length = _
    rw [List.length_append, ih, hdC_len, List.length_cons]
    omega
theorem hcells_append (a b : List Hd) : hcells (a ++ b) = hcells a ++ hcells b := List.flatMap_append
theorem hcells_get {L : List Hd} {i f : Nat} {p : Hd} {v : Value} (h : L[i]? = some p) (hv : (hdC p)[f]? = some v) : (hcells L)[i * 3 + f]? = some v := by
  have hf := (List.getElem?_eq_some_iff.1 hv).1
  rw [hdC_len] at hf
  induction L generalizing i with
  | nil => cases h
  | cons q L ih =>
    show (hdC q ++ hcells L)[i * 3 + f]? = _
    cases i with
    | zero =>
      have : q = p := by simpa using h
      subst this
      rw [Nat.zero_mul, Nat.zero_add, List.getElem?_append_left (by rw [hdC_len]; exact hf)]
      exact hv
    | succ i =>
      rw [List.getElem?_append_right (by rw [hdC_len]; omega), hdC_len, show (i + 1) * 3 + f - 3 = i * 3 + f by omega]
      exact ih (by simpa using h)
theorem hcells_set {L : List Hd} {i f : Nat} {p p' : Hd} {v : Value} (h : L[i]? = some p) (hf : f < 3) (hv : (hdC p).set f v = hdC p') : (hcells L).set (i * 3 + f) v = hcells (L.set i p') := by
  induction L generalizing i with
  | nil => cases h
  | cons q L ih =>
    cases i with
    | zero =>
      have : q = p := by simpa using h
      subst this
      show (hdC q ++ hcells L).set (0 * 3 + f) v = hdC p' ++ hcells L
      rw [Nat.zero_mul, Nat.zero_add, List.set_append_left _ _ (by rw [hdC_len]; exact hf), hv]
    | succ i =>
      show (hdC q ++ hcells L).set ((i + 1) * 3 + f) v = hdC q ++ hcells (L.set i p')
      rw [List.set_append_right _ _ (by rw [hdC_len]; omega), hdC_len, show (i + 1) * 3 + f - 3 = i * 3 + f by omega, ih (by simpa using h)]
structure LiveAt (w : World) (own : Ow) (ptr : Nat → Nat) (lb tb : Nat) (T : Tr) (hv : Value) (hb : Option Nat) (H : List Hd) : Prop where
  tree : TreeAt w own ptr tb T
  ownd : Owned own w
  box : w.heap[lb]? = some (.cells #[.pointer (some ⟨tb, 0, none⟩), hv] 50 (0, 0))
  row : RowP w (fun g => hb = some g) 83 3 hv H.length (hcells H)
  nbox : own lb = none
  nrow : ∀ g, hb = some g → own g = none ∧ g ≠ lb ∧ g < w.heap.size
structure LStep (own : Ow) (lb : Nat) (hb : Option Nat) (w : World) (own' : Ow) (hb' : Option Nat) (w' : World) : Prop where
  mv : Mv (fun b => own b ≠ none ∨ b = lb ∨ hb = some b) w w'
  same : ∀ b, b < w.heap.size → own' b = own b
  hold : ∀ g, hb' = some g → hb = some g ∨ w.heap.size ≤ g
def LAfter (own : Ow) (lb tb : Nat) (hb : Option Nat) (w : World) (T' : Tr) (H' : List Hd) (w' : World) : Prop := ∃ own' ptr' hv' hb', LiveAt w' own' ptr' lb tb T' hv' hb' H' ∧ LStep own lb hb w own' hb' w'
section
variable {w w' : World} {own : Ow} {ptr : Nat → Nat} {lb tb : Nat} {T T' : Tr} {hv : Value} {hb : Option Nat} {H : List Hd}
theorem LiveAt.lt (h : LiveAt w own ptr lb tb T hv hb H) : lb < w.heap.size := (Array.getElem?_eq_some_iff.1 h.box).1
theorem LiveAt.ptr_ (h : LiveAt w own ptr lb tb T hv hb H) : w.cell? ⟨lb, 0, none⟩ = some (.pointer (some ⟨tb, 0, none⟩)) := cellOf h.box rfl
theorem LiveAt.row_ (h : LiveAt w own ptr lb tb T hv hb H) : w.cell? ⟨lb, 1, none⟩ = some hv := cellOf h.box rfl
theorem LiveAt.mv {S : Nat → Prop} (h : LiveAt w own ptr lb tb T hv hb H) (k : Mv S w w') (h1 : ∀ b, own b ≠ none → ¬ S b) (h2 : ¬ S lb) (h3 : ∀ g, hb = some g → ¬ S g) : LiveAt w' own ptr lb tb T hv hb H :=
  ⟨h.tree.keep fun b hb => k.rest b (h.ownd b hb) (h1 b hb), fun b hb => Nat.lt_of_lt_of_le (h.ownd b hb) k.size, k.block h.box h2, h.row.mv k h3, h.nbox,
   fun g hg => ⟨(h.nrow g hg).1, (h.nrow g hg).2.1, Nat.lt_of_lt_of_le (h.nrow g hg).2.2 k.size⟩⟩
theorem LiveAt.ext (h : LiveAt w own ptr lb tb T hv hb H) (k : Ext w w') : LiveAt w' own ptr lb tb T hv hb H := h.mv (S := fun _ => False) (Mv.ofExt k) (fun _ _ => id) id (fun _ _ => id)
theorem LStep.refl (own : Ow) (lb : Nat) (hb : Option Nat) (w : World) : LStep own lb hb w own hb w := ⟨Mv.refl _ w, fun _ _ => rfl, fun _ => .inl⟩
theorem LStep.ext {own' : Ow} {hb' : Option Nat} {w'' : World} (h : LStep own lb hb w own' hb' w') (k : Ext w' w'') : LStep own lb hb w own' hb' w'' := ⟨h.mv.ext k, h.same, h.hold⟩
theorem LStep.trans {own1 own2 : Ow} {hb1 hb2 : Option Nat} {w1 w2 : World} (h : LStep own lb hb w own1 hb1 w1) (k : LStep own1 lb hb1 w1 own2 hb2 w2) : LStep own lb hb w own2 hb2 w2 := by
  refine ⟨⟨k.mv.os.trans h.mv.os, k.mv.tape.trans h.mv.tape, k.mv.output.trans h.mv.output, Nat.le_trans h.mv.size k.mv.size, fun b hb' hn => ?_⟩, fun b hb' => (k.same b (Nat.lt_of_lt_of_le hb' h.mv.size)).trans (h.same b hb'), fun g hg => ?_⟩
  · refine (k.mv.rest b (Nat.lt_of_lt_of_le hb' h.mv.size) ?_).trans (h.mv.rest b hb' hn)
    rintro (h1 | h1 | h1)
    · exact hn (.inl (by rw [← h.same b hb']; exact h1))
    · exact hn (.inr (.inl h1))
    · rcases h.hold b h1 with h2 | h2
      · exact hn (.inr (.inr h2))
      · omega
  · rcases k.hold g hg with h1 | h1
    · exact h.hold g h1
    · exact .inr (Nat.le_trans h.mv.size h1)
theorem LAfter.same (h : LiveAt w own ptr lb tb T hv hb H) (x : Ext w w') : LAfter own lb tb hb w T H w' := ⟨own, ptr, hv, hb, h.ext x, (LStep.refl own lb hb w).ext x⟩
theorem LiveAt.after (h : LiveAt w own ptr lb tb T hv hb H) (ha : After own w tb T' w') : ∃ own' ptr', LiveAt w' own' ptr' lb tb T' hv hb H ∧ LStep own lb hb w own' hb w' ∧ Step own w own' w' := by
  obtain ⟨own', ptr', h1, h2⟩ := ha
  have k := h2.mv
  refine ⟨own', ptr', ⟨h1, h2.owned, k.block h.box (fun hn => hn h.nbox), h.row.mv k (fun g hg hn => hn (h.nrow g hg).1), (h2.same lb h.lt).trans h.nbox, fun g hg => ⟨(h2.same g (h.nrow g hg).2.2).trans (h.nrow g hg).1, (h.nrow g hg).2.1, Nat.lt_of_lt_of_le (h.nrow g hg).2.2 k.size⟩⟩,
    ⟨k.imp fun b _ hb => .inl hb, h2.same, fun g hg => .inl hg⟩, h2⟩
theorem LiveAt.at (h : LiveAt w own ptr lb tb T hv hb H) : ∃ a cap, hv = .slice a H.length cap ∧ H.length ≤ cap ∧ (0 < H.length → ∃ g cur, a = some ⟨g, 0, none⟩ ∧ hb = some g ∧ w.heap[g]? = some (.cells cur 83 (0, 0)) ∧ cur.toList.take (H.length * 3) = hcells H ∧ cur.size = cap * 3 ∧ cap ≤ maxLen) := by
  rcases h.row.2 with ⟨h0, a, e⟩ | ⟨g, cap, cur, h1, h2, h3, h4, h5, h6, h7⟩
  · exact ⟨a, 0, by rw [e, h0], by omega, fun hp => absurd hp (by omega)⟩
  · exact ⟨some ⟨g, 0, none⟩, cap, h1, h4, fun _ => ⟨g, cur, rfl, h2, h3, h7, h6, h5⟩⟩
theorem hold_cell {g : Nat} {cur : Array Value} {t : TypeId} {n : Nat} (h3 : w.heap[g]? = some (.cells cur t (0, 0))) (h7 : cur.toList.take (n * 3) = hcells H) {i f : Nat} {p : Hd} {v : Value} (hp : H[i]? = some p) (hv : (hdC p)[f]? = some v) :
    w.cell? ⟨g, i * 3 + f, none⟩ = some v := by
  refine cellOf h3 ?_
  have h := hcells_get hp hv
  rw [← h7, List.getElem?_take] at h
  split at h
  · rw [← Array.getElem?_toList]; exact h
  · cases h
theorem LiveAt.set (h : LiveAt w own ptr lb tb T hv hb H) {i f : Nat} {p p' : Hd} {v : Value} (hp : H[i]? = some p) (hf : f < 3) (hv' : (hdC p).set f v = hdC p') {g : Nat} (hg : hb = some g) :
    LiveAt (w.setCell ⟨g, i * 3 + f, none⟩ v) own ptr lb tb T hv hb (H.set i p') := by
  have hi := (List.getElem?_eq_some_iff.1 hp).1
  have hm : Mv (fun x => x = g) w (w.setCell ⟨g, i * 3 + f, none⟩ v) := (Mv.refl (fun x => x = g) w).setCell (p := ⟨g, i * 3 + f, none⟩) (fun _ => rfl) v
  obtain ⟨n1, n2, n3⟩ := h.nrow g hg
  refine ⟨h.tree.keep fun b hb => hm.rest b (h.ownd b hb) (fun e => hb (by rw [(show b = g from e)]; exact n1)), fun b hb => Nat.lt_of_lt_of_le (h.ownd b hb) hm.size, hm.block h.box (fun e => n2 (show lb = g from e).symm), ?_, h.nbox, fun x hx => ⟨(h.nrow x hx).1, (h.nrow x hx).2.1, Nat.lt_of_lt_of_le (h.nrow x hx).2.2 hm.size⟩⟩
  rcases h.row.2 with ⟨h0, _⟩ | ⟨g', cap, cur, h1, h2, h3, h4, h5, h6, h7⟩
  · omega
  · obtain rfl : g' = g := by rw [hg] at h2; exact (Option.some.inj h2).symm
    refine ⟨by rw [hcells_len], .inr ⟨g', cap, _, by rw [List.length_set]; exact h1, hg, heap_setCell_same h3 v, by rw [List.length_set]; exact h4, h5, by simpa using h6, ?_⟩⟩
    rw [Array.toList_setIfInBounds, List.length_set, List.take_set, h7, hcells_set hp hf hv']
end
theorem TreeAt.tat {w : World} {own : Ow} {ptr : Nat → Nat} {tb : Nat} {T : Tr} (h : TreeAt w own ptr tb T) (hO : Owned own w) : TAt w tb T := ⟨own, ptr, h, hO⟩
def LNewIs (w : World) (T : Tr) (e : Ending) (w' : World) : Prop := ∃ lb tb own ptr, e = .returned (.tuple #[.pointer (some ⟨lb, 0, none⟩), .int .i64 0]) ∧ LiveAt w' own ptr lb tb T (.slice none 0 0) none [] ∧ Ext w w' ∧ w.heap.size ≤ lb ∧ ∀ b, own b ≠ none → w.heap.size ≤ b
theorem lNew_ok (cap deep : Int) (h1 : 1 ≤ cap) (h2 : cap ≤ 2000) (h3 : 0 ≤ deep) (h4 : deep ≤ 40) (w : World) :
    Calls Tryz.prog 8 #[.int .i64 cap, .int .i64 deep] w (LNewIs w (hostOf cap deep)) := by
  have HN := qh (New_ok cap deep h1 h2 h3 h4 w)
  clear h1 h2 h3 h4
  go_enter Tryz.func8, Tryz.ntmps8
  go_wp2_with (go_at_call 29; refine HN.out.mono ?_)
  rintro e w1 ⟨tb, own, ptr, rfl, hT, hO, hx1, hf⟩
  have X := (Ext.refl w1).alloc (.cells #[.pointer (some ⟨tb, 0, none⟩), .slice none 0 0] 50)
  have hn := heap_alloc_new w1 (.cells #[.pointer (some ⟨tb, 0, none⟩), .slice none 0 0] 50)
  have HL : Hid (LNewIs w (hostOf cap deep) (.returned (.tuple #[.pointer (some ⟨w1.heap.size, 0, none⟩), .int .i64 0])) (w1.alloc (.cells #[.pointer (some ⟨tb, 0, none⟩), .slice none 0 0] 50))) := qh ⟨w1.heap.size, tb, own, ptr, rfl,
    ⟨hT.keep (X.keep hO), fun b hb => Nat.lt_of_lt_of_le (hO b hb) X.size, hn, ⟨rfl, .inl ⟨rfl, none, rfl⟩⟩, Decidable.byContradiction fun h => Nat.lt_irrefl _ (hO _ h), fun g hg => by cases hg⟩, hx1.trans X, hx1.size, hf⟩
  clear hT hO hx1 hf X hn
  go_wp2_with fail
  go_ret2
  exact HL.out
def FirstOff (H : List Hd) (k : Int) : Prop := (k = -1 ∧ ∀ x ∈ H, x.off ≠ 1) ∨ ∃ (i : Nat) (x : Hd), k = (i : Int) ∧ H[i]? = some x ∧ x.off = 1 ∧ ∀ y ∈ H.take i, y.off ≠ 1
theorem off_any (x : Hd) (w : World) : Calls Tryz.prog 69 #[.agg #[.int .i64 x.node, .int .i64 x.at', .int .i64 x.off]] w (RBool (x.off == 1) w) := by
  have X := (Ext.refl w).alloc (.cells #[.int .i64 x.node, .int .i64 x.at', .int .i64 x.off] 83)
  go_enter Tryz.func69, Tryz.ntmps69
  go_wp2_with fail
  go_ret
  exact ⟨rfl, X⟩
theorem idxOff_any {w : World} {hv : Value} {hb : Option Nat} {H : List Hd} (hl : H.length ≤ 100000) (hr : RowP w (fun g => hb = some g) 83 3 hv H.length (hcells H)) :
    Calls Tryz.prog 68 #[hv, .func (.func 69) #[] #[]] w (fun e w' => ∃ k, e = .returned (.int .i64 k) ∧ FirstOff H k ∧ Ext w w') := by
  obtain ⟨a, cap, rfl, hc, hg⟩ : ∃ a cap, hv = .slice a H.length cap ∧ H.length ≤ cap ∧ (0 < H.length → ∃ g cur, a = some ⟨g, 0, none⟩ ∧ w.heap[g]? = some (.cells cur 83 (0, 0)) ∧ cur.toList.take (H.length * 3) = hcells H) := by
    rcases hr.2 with ⟨h0, a, e⟩ | ⟨g, cap, cur, h1, h2, h3, h4, h5, h6, h7⟩
    · exact ⟨a, 0, by rw [e, h0], by omega, fun hp => absurd hp (by omega)⟩
    · exact ⟨some ⟨g, 0, none⟩, cap, h1, h4, fun _ => ⟨g, cur, rfl, h3, h7⟩⟩
  have HG := qh hg
  obtain ⟨n, hn⟩ : ∃ n, H.length = n := ⟨_, rfl⟩
  have HN := qh hn
  rw [hn] at hl ⊢
  clear hr hg hn hc
  go_enter Tryz.func68, Tryz.ntmps68
  go_wp2_with fail
  go_loopw [5, 8] (fun _ iv wr => ∃ i : Nat, i ≤ n ∧ iv = .int .i64 i ∧ (∀ x ∈ H.take i, x.off ≠ 1) ∧ Ext w wr) (fun _ iv _ => n - (intOf iv).toNat)
  case atStart => exact ⟨0, Nat.zero_le _, rfl, fun x hx => (by rw [List.take_zero] at hx; cases hx), Ext.refl _⟩
  case round =>
    obtain ⟨i, hin, rfl, hno, xr⟩ := hrel
    have HNO := qh hno
    have XR := qh xr
    clear hno xr
    by_cases hlt : i < n
    · obtain ⟨x, hx⟩ : ∃ x, H[i]? = some x := ⟨_, List.getElem?_eq_getElem (by rw [HN.out]; exact hlt)⟩
      obtain ⟨g, cur, rfl, hgb, htk⟩ := HG.out (by rw [HN.out]; omega)
      have q0 := XR.out.cell (hold_cell (f := 0) hgb htk hx (v := .int .i64 x.node) rfl)
      have q1 := XR.out.cell (hold_cell (f := 1) hgb htk hx (v := .int .i64 x.at') rfl)
      have q2 := XR.out.cell (hold_cell (f := 2) hgb htk hx (v := .int .i64 x.off) rfl)
      rw [Nat.add_zero] at q0
      have HX := qh hx
      have HOF := qh (fun W => off_any x W)
      have e0 : decide ((i : Int) < (n : Int)) = true := decide_eq_true (by omega)
      have e0n : decide (i < n) = true := decide_eq_true hlt
      have i0 : (0 : Int) ≤ (i : Int) := by omega
      have i1 : (i : Int) < (n : Int) := by omega
      have itn : (i : Int).toNat = i := by omega
      clear hgb htk hx
      cases hb1 : (x.off == 1) with
      | true =>
        rw [hb1] at HOF
        have HB := qh (beq_iff_eq.1 hb1)
        clear hb1
        go_wp2_with (go_at_call 69; refine (HOF.out _).mono ?_)
        rintro e w2 ⟨rfl, x2⟩
        clear q0 q1 q2
        go_wp2_with fail
        go_ret
        exact ⟨i, rfl, .inr ⟨i, x, rfl, HX.out, HB.out, HNO.out⟩, XR.out.trans x2⟩
      | false =>
        rw [hb1] at HOF
        have HB := qh (beq_eq_false_iff_ne.1 hb1)
        clear hb1
        go_wp2_with (go_at_call 69; refine (HOF.out _).mono ?_)
        rintro e w2 ⟨rfl, x2⟩
        clear q0 q1 q2
        go_wp2_with fail
        go_roundw
        case rel =>
          refine ⟨i + 1, by omega, by go_num, fun y hy => ?_, XR.out.trans x2⟩
          rw [List.take_add_one, HX.out] at hy
          rcases List.mem_append.1 hy with h | h
          · exact HNO.out y h
          · have : y = x := by simpa using h
            rw [this]; exact HB.out
        case measure => simp [intOf]; omega
    · have e0 : decide ((i : Int) < (n : Int)) = false := decide_eq_false (by omega)
      have e0n : decide (i < n) = false := decide_eq_false hlt
      go_wp2_with fail
      go_ret
      exact ⟨-1, rfl, .inl ⟨rfl, fun x hx => HNO.out x (by rw [List.take_of_length_le (by rw [HN.out]; omega)]; exact hx)⟩, XR.out⟩
section
variable {w : World} {own : Ow} {ptr : Nat → Nat} {lb tb : Nat} {T : Tr} {hv : Value} {hb : Option Nat} {H : List Hd}
theorem lIs_yes (h : LiveAt w own ptr lb tb T hv hb H) {i : Nat} {x : Hd} (hx : H[i]? = some x) (ho : x.off = 0) (hl : H.length ≤ 100000) : Calls Tryz.prog 48 #[.pointer (some ⟨lb, 0, none⟩), .int .i64 (i : Int)] w (RBool true w) := by
  have hi := (List.getElem?_eq_some_iff.1 hx).1
  have HN := qh (none_some h.ptr_)
  have p1 := h.row_
  have p0 := h.ptr_
  obtain ⟨a, cap, rfl, hc, hg⟩ := h.at
  obtain ⟨g, cur, rfl, hgb, hgr, htk, _⟩ := hg (by omega)
  have q2 := hold_cell (f := 2) hgr htk hx (v := .int .i64 x.off) rfl
  rw [ho] at q2
  obtain ⟨n, hn⟩ : ∃ n, H.length = n := ⟨_, rfl⟩
  rw [hn] at p1 hl hi
  have e0 : decide ((0 : Int) ≤ (i : Int)) = true := decide_eq_true (by omega)
  have e1 : decide ((i : Int) < (n : Int)) = true := decide_eq_true (by omega)
  have e1n : decide (i < n) = true := decide_eq_true hi
  have i0 : (0 : Int) ≤ (i : Int) := by omega
  have i1 : (i : Int) < (n : Int) := by omega
  have itn : (i : Int).toNat = i := by omega
  clear hc hg hgb hgr htk hx hn
  go_enter Tryz.func48, Tryz.ntmps48
  go_wp2_with (go_at_call 47; refine HN.out.mono ?_; rintro e w' ⟨rfl, rfl⟩)
  go_ret
  exact ⟨rfl, Ext.refl _⟩
theorem lHeld_ok (h : LiveAt w own ptr lb tb T hv hb H) {i : Nat} {x : Hd} (hx : H[i]? = some x) (ho : x.off = 0) (hl : H.length ≤ 100000) : Calls Tryz.prog 12 #[.pointer (some ⟨lb, 0, none⟩), .int .i64 (i : Int)] w (RTwo (pl x.node x.at') (.bool true) w) := by
  have hi := (List.getElem?_eq_some_iff.1 hx).1
  have xa := (Ext.refl w).alloc (.cells #[.int .i64 0, .int .i64 0] 43)
  have hba := heap_alloc_new w (.cells #[.int .i64 0, .int .i64 0] 43)
  have HI := qh (lIs_yes (h.ext xa) hx ho hl)
  obtain ⟨a, cap, rfl, hc, hg⟩ := h.at
  obtain ⟨g, cur, rfl, hgb, hgr, htk, _⟩ := hg (by omega)
  have p1 := xa.cell h.row_
  have q0 := xa.cell (hold_cell (f := 0) hgr htk hx (v := .int .i64 x.node) rfl)
  have q1 := xa.cell (hold_cell (f := 1) hgr htk hx (v := .int .i64 x.at') rfl)
  rw [Nat.add_zero] at q0
  obtain ⟨n, hn⟩ : ∃ n, H.length = n := ⟨_, rfl⟩
  rw [hn] at p1 hl hi
  have i0 : (0 : Int) ≤ (i : Int) := by omega
  have i1 : (i : Int) < (n : Int) := by omega
  have itn : (i : Int).toNat = i := by omega
  obtain ⟨wa, hwa⟩ : ∃ W : World, W = w.alloc (.cells #[.int .i64 0, .int .i64 0] 43) := ⟨_, rfl⟩
  rw [← hwa] at xa hba HI p1 q0 q1
  have HWA := qh hwa
  have XA := qh xa
  have HBA := qh hba
  clear hc hg hgb hgr htk hx hn hwa xa hba
  go_enter Tryz.func12, Tryz.ntmps12
  go_upto_region 1 with fail
  rw [← HWA.out]
  go_wp2_with (go_at_call 48; refine HI.out.mono ?_)
  rintro e w2 ⟨rfl, x2⟩
  have hb2 := x2.block HBA.out
  have q0 := x2.cell q0
  have q1 := x2.cell q1
  have p1 := x2.cell p1
  have c0 := cellOf hb2 (i := 0) rfl
  have c1 := cellOf hb2 (i := 1) rfl
  have f0 := freeOf hb2 0
  have f1 := freeOf hb2 1
  have XF := qh (((XA.out.trans x2).setCell (p := ⟨w.heap.size, 0, none⟩) (Nat.le_refl _) (.int .i64 x.node)).setCell (p := ⟨w.heap.size, 1, none⟩) (Nat.le_refl _) (.int .i64 x.at'))
  have B3 : ((w2.setCell ⟨w.heap.size, 0, none⟩ (.int .i64 x.node)).setCell ⟨w.heap.size, 1, none⟩ (.int .i64 x.at')).heap[w.heap.size]? = some (.cells #[.int .i64 x.node, .int .i64 x.at'] 43 (0, 0)) := heap_setCell_same (i := 1) (heap_setCell_same (i := 0) hb2 (.int .i64 x.node)) (.int .i64 x.at')
  have HLV := qh (run_loadVar_row (P := Tryz.prog) _ w.heap.size 43 43 _ (0, 0) _ B3 Tryz.underlying43 rfl (by kernel_rfl))
  clear x2 hb2 B3
  go_wp2_with fail
  have hlv := HLV.out
  refine bodyPost_ret (v := .tuple #[pl x.node x.at', .bool true]) (by simp [results, Tryz.results12, asAddr, hlv]) rfl ?_
  exact ⟨rfl, XF.out⟩
theorem infoHold : (Tryz.prog.info? 83).map (fun i => (i.zero, i.size, i.bytes)) = some (some (.agg #[.int .i64 0, .int .i64 0, .int .i64 0]), 3, 24) := by kernel_rfl
theorem hdC_one (x : Hd) : ∀ u ∈ hdC x, u.oneCell' = true := by
  intro u hu
  simp only [hdC, List.mem_cons, List.not_mem_nil, or_false] at hu
  rcases hu with rfl | rfl | rfl <;> rfl
theorem LiveAt.push (h : LiveAt w own ptr lb tb T hv hb H) (hlen : H.length ≤ 100000) (x : Hd) {cs : Array Value} (hcs : cs.toList = hdC x) :
    ∃ (a : Option Addr) (cap : Nat) (wB : World) (hb' : Option Nat), (Builtin.append_ #[48, 48] 48 #[hv, .slice (some ⟨w.heap.size, 0, none⟩) 1 1]).run Tryz.prog (w.alloc (.cells cs 83)) = .ok (.slice a (H.length + 1) cap) wB ∧
      wB.heap[lb]? = some (.cells #[.pointer (some ⟨tb, 0, none⟩), hv] 50 (0, 0)) ∧ Mv (fun b => hb = some b) w wB ∧
      LiveAt (wB.setCell ⟨lb, 1, none⟩ (.slice a (H.length + 1) cap)) own ptr lb tb T (.slice a (H.length + 1) cap) hb' (H ++ [x]) ∧
      LStep own lb hb w own hb' (wB.setCell ⟨lb, 1, none⟩ (.slice a (H.length + 1) cap)) := by
  obtain ⟨i0, hi, hz0, hz1, hz2⟩ := info_parts infoHold
  have hxa := (Ext.refl w).alloc (.cells cs 83)
  have hA := h.ext hxa
  have hna := heap_alloc_new w (.cells cs 83)
  have hszA : (w.alloc (.cells cs 83)).heap.size = w.heap.size + 1 := by simp
  obtain ⟨v', wB, row, hrun, hr, hg, hrow⟩ := run_append_row (P := Tryz.prog) (w.alloc (.cells cs 83)) 48 48 83 i0 _ 3 24 Tryz.underlying48 hi hz0 hz1 hz2 (by kernel_rfl) (by decide)
    hA.row ⟨w.heap.size, 0, none⟩ 1 1 (hdC x) rfl (by
      intro j u hj
      rw [Addr.add_lit, Nat.zero_add]
      refine cellOf hna ?_
      rw [← Array.getElem?_toList, hcs]; exact hj) (hdC_one x) (by decide) (by unfold maxLen; omega) (by omega)
  obtain ⟨a, cap, e, _⟩ := hr.rd.len_of
  subst e
  have hmB : Mv (fun b => hb = some b) w wB := (Mv.ofExt hxa).grown hg fun k hk _ => hrow k hk
  have hboxB : wB.heap[lb]? = some (.cells #[.pointer (some ⟨tb, 0, none⟩), hv] 50 (0, 0)) := hmB.block h.box fun e => (h.nrow lb e).2.1 rfl
  have hmL : Mv (fun b => b = lb) wB (wB.setCell ⟨lb, 1, none⟩ (.slice a (H.length + 1) cap)) := (Mv.refl (fun b => b = lb) wB).setCell (p := ⟨lb, 1, none⟩) (fun _ => rfl) _
  have hsw := hmB.size
  have hnew : ∀ g, (Value.slice a (H.length + 1) cap).ownBlock = some g → (hb = some g ∨ (w.alloc (.cells cs 83)).heap.size ≤ g) ∧ g < wB.heap.size := by
    intro g hgo
    rcases hr.2 with ⟨h0, _⟩ | ⟨g', cap', cur, h1, h2, h3, _⟩
    · omega
    · rw [h1] at hgo
      cases hgo
      exact ⟨h2, (Array.getElem?_eq_some_iff.1 h3).1⟩
  have hown : ∀ g, (Value.slice a (H.length + 1) cap).ownBlock = some g → own g = none ∧ g ≠ lb := by
    intro g hgo
    rcases (hnew g hgo).1 with h1 | h1
    · exact ⟨(h.nrow g h1).1, (h.nrow g h1).2.1⟩
    · exact ⟨Decidable.byContradiction fun hn => by have := h.ownd g hn; omega, fun e => by have := h.lt; omega⟩
  have hmv2 : Mv (fun b => own b ≠ none ∨ b = lb ∨ hb = some b) w (wB.setCell ⟨lb, 1, none⟩ (.slice a (H.length + 1) cap)) := (hmB.imp fun _ _ h => .inr (.inr h)).trans (hmL.imp fun _ _ h => .inr (.inl h)) 
  refine ⟨a, cap, wB, (Value.slice a (H.length + 1) cap).ownBlock, hrun, hboxB, hmB, ⟨?_, ?_, heap_setCell_same hboxB _, ?_, h.nbox, fun g hg => ⟨(hown g hg).1, (hown g hg).2, Nat.lt_of_lt_of_le (hnew g hg).2 hmL.size⟩⟩, ⟨hmv2, fun _ _ => rfl, fun g hg => (hnew g hg).1.imp id fun h => by omega⟩⟩
  · refine h.tree.keep fun b hb' => ?_
    have e1 := hmB.rest b (h.ownd b hb') fun e => hb' (h.nrow b e).1
    have e2 := hmL.rest b (Nat.lt_of_lt_of_le (h.ownd b hb') hsw) fun e => hb' (by rw [(show b = lb from e)]; exact h.nbox)
    exact e2.trans e1
  · exact fun b hb' => Nat.lt_of_lt_of_le (h.ownd b hb') (Nat.le_trans hsw hmL.size)
  · rw [List.length_append, hcells_append]
    have e1 : hcells [x] = hdC x := by show hdC x ++ [] = _; rw [List.append_nil]
    rw [e1]
    have hr2 : RowP wB (fun g => (Value.slice a (H.length + 1) cap).ownBlock = some g) 83 3 (.slice a (H.length + 1) cap) (H.length + 1) (hcells H ++ hdC x) := RowP.imp hr fun g hgo _ => hgo
    exact hr2.mv hmL fun g hg e => (hown g hg).2 e
end
theorem wpList_append_runL {P : Program} (w : World) {ops : Array Oper} {rest : List Oper} {o : Oper} {a : Act} {Q : Exit → Act → World → Prop}
    (hg : o.guard = none) (s x : Operand) (t : TypeId) (hop : o.op = Op.call { callee := Callee.builtin Builtin.append, args := #[s, x], argTypes := #[t, t] })
    (v u : Value) (hs : a.eval s = v) (hx : a.eval x = u) (v' : Value) (w' : World) (hr : (Builtin.append_ #[t, t] o.type #[v, u]).run P w = .ok v' w') (hK : wpList P ops Q rest (a.put o.dst v') w') :
    wpList P ops Q (o :: rest) a w := by
  refine wpList_plain hg fun K hK' => ?_
  unfold Oper.wp
  simp [execOp, hop, resolve, invoke, builtin, hs, hx, hr, Result.andThen]
  exact hK' _ _ hK
section
variable {w : World} {own : Ow} {ptr : Nat → Nat} {lb tb : Nat} {T : Tr} {hv : Value} {hb : Option Nat} {H : List Hd}
def LHoldIs (own : Ow) (lb tb : Nat) (hb : Option Nat) (w : World) (T : Tr) (k : Nat) (H' : List Hd) (e : Ending) (w' : World) : Prop := e = .returned (.tuple #[.int .i64 (k : Int), .int .i64 0]) ∧ LAfter own lb tb hb w T H' w'
theorem set_snoc (H : List Hd) (x y : Hd) : (H ++ [x]).set H.length y = H ++ [y] := by simp
theorem lHold_add (h : LiveAt w own ptr lb tb T hv hb H) {d : Nat → Nat} (hw : WF T d) (hA : AttrsOk T) (n a : Int) (hm : T.may n a = true) (hno : ∀ x ∈ H, x.off ≠ 1) (hl : H.length ≤ 100000) :
    Calls Tryz.prog 21 #[.pointer (some ⟨lb, 0, none⟩), pl n a] w (LHoldIs own lb tb hb w T H.length (H ++ [⟨n, a, 0⟩])) := by
  have xa := (Ext.refl w).alloc (.cells #[.int .i64 n, .int .i64 a] 43)
  have hba := heap_alloc_new w (.cells #[.int .i64 n, .int .i64 a] 43)
  obtain ⟨wa, hwa⟩ : ∃ W : World, W = w.alloc (.cells #[.int .i64 n, .int .i64 a] 43) := ⟨_, rfl⟩
  rw [← hwa] at xa hba
  obtain ⟨pb, hpb⟩ : ∃ b, w.heap.size = b := ⟨_, rfl⟩
  rw [hpb] at hba
  have hA2 := h.ext xa
  have HT := qh hA2
  have HNN := qh (fun u : ExtOf wa => inExt (u := u) (RSame.val (none_some (hA2.ext u.ext).ptr_)))
  have HMM : Hid (∀ u : ExtOf wa, Calls Tryz.prog 13 #[.pointer (some ⟨tb, 0, none⟩), .agg #[.int .i64 n, .int .i64 a]] u.val (fun e w' => e = .returned (.bool true) ∧ ∃ u' : ExtOf wa, w' = u'.val)) :=
    qh (fun u => inExt (u := u) (by have h9 := May_any ((hA2.ext u.ext).tree.tat (hA2.ext u.ext).ownd) hw hA n a; rw [hm] at h9; exact h9))
  have c0 : ∀ u : ExtOf wa, u.val.cell? ⟨lb, 0, none⟩ = some (.pointer (some ⟨tb, 0, none⟩)) := fun u => u.ext.cell hA2.ptr_
  have d0 : ∀ u : ExtOf wa, u.val.cell? ⟨pb, 0, none⟩ = some (.int .i64 n) := fun u => u.ext.cell (cellOf hba rfl)
  have d1 : ∀ u : ExtOf wa, u.val.cell? ⟨pb, 1, none⟩ = some (.int .i64 a) := fun u => u.ext.cell (cellOf hba rfl)
  have HNO := qh hno
  have XA := qh xa
  have HWA := qh hwa
  have HPB := qh hpb
  have HBA := qh hba
  have HL := qh hl
  have HH := qh h
  clear h hw hA hm hno hl xa hwa hpb hba hA2
  go_enter Tryz.func21, Tryz.ntmps21
  go_upto_region 1 with fail
  rw [← HWA.out, HPB.out]
  refine wp_region_ext (by kernel_rfl) (by kernel_rfl) ?_
  repeat (go_big_quiet_step ((first | (go_at_call 47; exact HNN.out _) | (go_at_call 13; exact HMM.out _))))
  refine wpQuiet_nil ?_
  rintro _ ⟨u, rfl⟩
  have hx := u.ext
  obtain ⟨w1, hw1⟩ : ∃ W, u.val = W := ⟨_, rfl⟩
  rw [hw1] at hx ⊢
  have HT1 := qh (HT.out.ext hx)
  have X1 := qh (XA.out.trans hx)
  have HB1 := qh (hx.block HBA.out)
  clear c0 d0 d1 hx hw1
  clear u
  have p1 := HT1.out.row_
  have HIX := qh (idxOff_any HL.out HT1.out.row)
  go_wp2_with (go_at_call 68; refine HIX.out.mono ?_)
  rintro e w2 ⟨k, rfl, hk, x2⟩
  obtain rfl : k = -1 := by
    rcases hk with ⟨h, _⟩ | ⟨i, x, _, hx, ho, _⟩
    · exact h
    · exact absurd ho (HNO.out x (List.mem_of_getElem? hx))
  have HT2 := qh (HT1.out.ext x2)
  have X2 := qh (X1.out.trans x2)
  have HB2 := qh (x2.block HB1.out)
  clear p1 hk x2 HIX
  obtain ⟨m, hm⟩ : ∃ m, H.length = m := ⟨_, rfl⟩
  have p1 := HT2.out.row_
  have P1 := qh p1
  obtain ⟨a1, cap1, hse, -⟩ := HT2.out.at
  rw [hse, hm] at p1
  clear hse
  go_upto_region 6 with fail
  clear p1
  have p1 := P1.out
  have HM := qh hm
  obtain ⟨a3, cap3, wB, hb3, hrun, hboxB, hmB, hT3, hS3⟩ := HT2.out.push HL.out ⟨0, 0, 0⟩ (cs := #[.int .i64 0, .int .i64 0, .int .i64 0]) rfl
  have cB := cellOf hboxB (i := 1) rfl
  have fB := freeOf hboxB 1
  have HRUN := qh hrun
  have HBB : Hid ((wB.setCell ⟨lb, 1, none⟩ (.slice a3 (H.length + 1) cap3)).heap[pb]? = some (.cells #[.int .i64 n, .int .i64 a] 43 (0, 0))) := qh (by
    have h1 := (Array.getElem?_eq_some_iff.1 HB2.out).1
    have h2 := HPB.out
    have h3 := HH.out.lt
    rw [heap_setCell_other _ (by show pb ≠ lb; omega)]
    exact hmB.block HB2.out (fun e => by have := (HH.out.nrow pb e).2.2; omega))
  obtain ⟨w4, hw4⟩ : ∃ W, W = wB.setCell ⟨lb, 1, none⟩ (.slice a3 (H.length + 1) cap3) := ⟨_, rfl⟩
  rw [← hw4] at hT3 hS3 HBB
  have HW4 := qh hw4
  have HT4 := qh hT3
  have HS4 : Hid (LStep own lb hb w own hb3 w4) := qh (((LStep.refl own lb hb w).ext X2.out).trans hS3)
  rw [hm] at HRUN HW4 HT4
  clear hm hrun hboxB hmB hT3 hS3 hw4
  go_upto_region 7 with (at_builtin; refine wpList_append_runL _ rfl _ _ 48 rfl _ _ rfl rfl _ _ HRUN.out ?_)
  rw [← HW4.out]
  clear cB fB p1
  have hlen3 : (H ++ [(⟨0, 0, 0⟩ : Hd)]).length = m + 1 := by rw [List.length_append, HM.out]; rfl
  obtain ⟨a4, cap4, e4, -, hg4⟩ := HT4.out.at
  obtain ⟨g, cur, ea, hbg, hgr, htk, -⟩ := hg4 (by rw [hlen3]; omega)
  rw [hlen3] at e4
  obtain ⟨rfl, -, rfl⟩ : a3 = a4 ∧ True ∧ cap3 = cap4 := by cases e4; exact ⟨rfl, trivial, rfl⟩
  subst ea
  have hxm : (H ++ [(⟨0, 0, 0⟩ : Hd)])[m]? = some ⟨0, 0, 0⟩ := by rw [← HM.out]; simp
  have r0 : ∀ u : ExtOf w4, u.val.cell? ⟨lb, 1, none⟩ = some (.slice (some ⟨g, 0, none⟩) (m + 1) cap3) := fun u => u.ext.cell HT4.out.row_
  have r1 : ∀ u : ExtOf w4, u.val.cell? ⟨pb, 0, none⟩ = some (.int .i64 n) := fun u => u.ext.cell (cellOf HBB.out rfl)
  have r2 : ∀ u : ExtOf w4, u.val.cell? ⟨pb, 1, none⟩ = some (.int .i64 a) := fun u => u.ext.cell (cellOf HBB.out rfl)
  have i0 : (0 : Int) ≤ (m : Int) := by omega
  have i1 : (m : Int) < ((m + 1 : Nat) : Int) := by omega
  have i1' : (m : Int) < (m : Int) + 1 := by omega
  have itn : (m : Int).toNat = m := by omega
  have HGR := qh hgr
  have HTK := qh htk
  have HXM := qh hxm
  have HBG := qh hbg
  have HM3 := qh hlen3
  clear e4 hg4 hbg hgr htk hxm hlen3
  refine wp_region_ext_tail 8 (by kernel_rfl) (by kernel_rfl) ?_
  simp only [List.take_succ_cons, List.take_zero, List.drop_succ_cons, List.drop_zero]
  repeat (go_big_quiet_step (fail))
  refine wpQuiet_nil ?_
  rintro _ ⟨u, rfl⟩
  have hx := u.ext
  obtain ⟨w5, hw5⟩ : ∃ W, u.val = W := ⟨_, rfl⟩
  rw [hw5] at hx ⊢
  clear r0 r1 r2 hw5
  clear u
  have HT5 := HT4.out.ext hx
  have hgr5 := hx.block HGR.out
  have k0 := hold_cell (f := 0) hgr5 HTK.out HXM.out (v := .int .i64 0) rfl
  have k1 := hold_cell (f := 1) hgr5 HTK.out HXM.out (v := .int .i64 0) rfl
  have k2 := hold_cell (f := 2) hgr5 HTK.out HXM.out (v := .int .i64 0) rfl
  rw [Nat.add_zero] at k0
  have f0 := freeOf hgr5 (m * 3)
  have f1 := freeOf hgr5 (m * 3 + 1)
  have f2 := freeOf hgr5 (m * 3 + 2)
  have HF : Hid (LiveAt (((w5.setCell ⟨g, m * 3, none⟩ (.int .i64 n)).setCell ⟨g, m * 3 + 1, none⟩ (.int .i64 a)).setCell ⟨g, m * 3 + 2, none⟩ (.int .i64 0)) own ptr lb tb T (.slice (some ⟨g, 0, none⟩) (m + 1) cap3) hb3 (H ++ [⟨n, a, 0⟩]) ∧
      LStep own lb hb w own hb3 (((w5.setCell ⟨g, m * 3, none⟩ (.int .i64 n)).setCell ⟨g, m * 3 + 1, none⟩ (.int .i64 a)).setCell ⟨g, m * 3 + 2, none⟩ (.int .i64 0))) := qh (by
    have s1 := HT5.set (f := 0) (v := .int .i64 n) (p' := ⟨n, 0, 0⟩) HXM.out (by decide) rfl HBG.out
    rw [← HM.out, set_snoc, HM.out, Nat.add_zero] at s1
    have x1 : (H ++ [(⟨n, 0, 0⟩ : Hd)])[m]? = some ⟨n, 0, 0⟩ := by rw [← HM.out]; simp
    have s2 := s1.set (f := 1) (v := .int .i64 a) (p' := ⟨n, a, 0⟩) x1 (by decide) rfl HBG.out
    rw [← HM.out, set_snoc, HM.out] at s2
    have x2 : (H ++ [(⟨n, a, 0⟩ : Hd)])[m]? = some ⟨n, a, 0⟩ := by rw [← HM.out]; simp
    have s3 := s2.set (f := 2) (v := .int .i64 0) (p' := ⟨n, a, 0⟩) x2 (by decide) rfl HBG.out
    rw [← HM.out, set_snoc, HM.out] at s3
    refine ⟨s3, HS4.out.trans (LStep.ext ⟨?_, fun _ _ => rfl, fun _ h => .inl h⟩ (Ext.refl _))⟩
    have hm0 : Mv (fun b => own b ≠ none ∨ b = lb ∨ hb3 = some b) w4 w5 := Mv.ofExt hx
    exact ((hm0.setCell (p := ⟨g, m * 3, none⟩) (fun _ => .inr (.inr HBG.out)) (.int .i64 n)).setCell (p := ⟨g, m * 3 + 1, none⟩) (fun _ => .inr (.inr HBG.out)) (.int .i64 a)).setCell (p := ⟨g, m * 3 + 2, none⟩) (fun _ => .inr (.inr HBG.out)) (.int .i64 0))
  clear HT5 hx hgr5
  go_wp2_with fail
  go_ret2
  rw [HM.out]
  exact ⟨rfl, own, ptr, _, _, HF.out⟩
end
def ByIs (w : World) (hb : Option Nat) (fv : Value) (P : Int → Int → Prop) (f : Int → Int → Int × Int) : Prop :=
  ∃ (g : Nat) (lbs : Array Value), fv = .func (.func g) #[] lbs ∧ (∀ args w, (callFunc g args).run Tryz.prog w = .ok (.enter g args) w) ∧
    ∀ (W : World) (n a : Int), Mv (fun b => hb = some b) w W → P n a → Calls Tryz.prog g (#[pl n a] ++ lbs) W (RPlace (f n a).1 (f n a).2 W)
def moved (f : Int → Int → Int × Int) (x : Hd) : Hd := if x.off = 0 then ⟨(f x.node x.at').1, (f x.node x.at').2, 0⟩ else x
def movedTo (f : Int → Int → Int × Int) (H : List Hd) (i : Nat) : List Hd := (H.take i).map (moved f) ++ H.drop i
theorem movedTo_zero (f : Int → Int → Int × Int) (H : List Hd) : movedTo f H 0 = H := by simp [movedTo]
theorem movedTo_len (f : Int → Int → Int × Int) (H : List Hd) (i : Nat) : (movedTo f H i).length = H.length := by
  unfold movedTo
  rw [List.length_append, List.length_map, ← List.length_append, List.take_append_drop]
theorem movedTo_all (f : Int → Int → Int × Int) (H : List Hd) : movedTo f H H.length = H.map (moved f) := by simp [movedTo]
theorem movedTo_at (f : Int → Int → Int × Int) {H : List Hd} {i : Nat} {x : Hd} (h : H[i]? = some x) : (movedTo f H i)[i]? = some x := by
  have hi := (List.getElem?_eq_some_iff.1 h).1
  unfold movedTo
  rw [List.getElem?_append_right (by simp; omega)]
  simp only [List.length_map, List.length_take]
  rw [show min i H.length = i by omega, Nat.sub_self, List.getElem?_drop, Nat.add_zero]
  exact h
theorem movedTo_next (f : Int → Int → Int × Int) {H : List Hd} {i : Nat} {x : Hd} (h : H[i]? = some x) : (movedTo f H i).set i (moved f x) = movedTo f H (i + 1) := by
  obtain ⟨hi, e⟩ := List.getElem?_eq_some_iff.1 h
  unfold movedTo
  have hl : ((H.take i).map (moved f)).length = i := by simp; omega
  rw [List.set_append_right _ _ (by omega), hl, Nat.sub_self, List.drop_eq_getElem_cons hi, List.set_cons_zero, List.take_add_one, h, List.map_append]
  simp
section
variable {w : World} {own : Ow} {ptr : Nat → Nat} {lb tb : Nat} {T : Tr} {hv : Value} {hb : Option Nat} {H : List Hd}
def LMoveIs (own : Ow) (ptr : Nat → Nat) (lb tb : Nat) (hv : Value) (hb : Option Nat) (w : World) (T : Tr) (H' : List Hd) (e : Ending) (w' : World) : Prop := e = .returned (.tuple #[]) ∧ LiveAt w' own ptr lb tb T hv hb H' ∧ Mv (fun b => hb = some b) w w'
theorem lMove_any (h : LiveAt w own ptr lb tb T hv hb H) (hl : H.length ≤ 100000) {fv : Value} {P : Int → Int → Prop} {f : Int → Int → Int × Int} (hP : ∀ x ∈ H, x.off = 0 → P x.node x.at') (hby : ByIs w hb fv P f) :
    Calls Tryz.prog 56 #[.pointer (some ⟨lb, 0, none⟩), fv] w (LMoveIs own ptr lb tb hv hb w T (H.map (moved f))) := by
  obtain ⟨fn, lbs, rfl, hen, hcall⟩ := hby
  have HC := qh hcall
  have HP := qh hP
  have HL := qh hl
  have HH := qh h
  obtain ⟨a1, cap1, rfl, hca, hg1⟩ := h.at
  have HG1 := qh hg1
  obtain ⟨m, hm⟩ : ∃ m, H.length = m := ⟨_, rfl⟩
  have HM := qh hm
  have p1 := h.row_
  rw [hm] at p1 hl
  clear hcall hP h hg1 hm hca
  go_enter Tryz.func56, Tryz.ntmps56
  go_wp2_with fail
  clear p1
  go_loopw [4, 10] (fun _ iv wr => ∃ i : Nat, i ≤ m ∧ iv = .int .i64 i ∧ LiveAt wr own ptr lb tb T (.slice a1 H.length cap1) hb (movedTo f H i) ∧ Mv (fun b => hb = some b) w wr) (fun _ iv _ => m - (intOf iv).toNat)
  case atStart => exact ⟨0, Nat.zero_le _, rfl, by rw [movedTo_zero]; exact HH.out, Mv.refl _ _⟩
  case round =>
    obtain ⟨i, him, rfl, hlv, hmv⟩ := hrel
    have HLV := qh hlv
    have HMV := qh hmv
    by_cases hlt : i < m
    · obtain ⟨x, hx⟩ : ∃ x, H[i]? = some x := ⟨_, List.getElem?_eq_getElem (by rw [HM.out]; exact hlt)⟩
      have hxi := movedTo_at f hx
      obtain ⟨a4, cap4, e4, -, hg4⟩ := hlv.at
      rw [movedTo_len] at e4 hg4
      obtain ⟨g, cur, ea, hbg, hgr, htk, -⟩ := hg4 (by rw [HM.out]; omega)
      obtain ⟨rfl, rfl⟩ : a1 = a4 ∧ cap1 = cap4 := by cases e4; exact ⟨rfl, rfl⟩
      subst ea
      rw [← movedTo_len f H i] at htk
      have k0 := hold_cell (f := 0) hgr htk hxi (v := .int .i64 x.node) rfl
      have k1 := hold_cell (f := 1) hgr htk hxi (v := .int .i64 x.at') rfl
      have k2 := hold_cell (f := 2) hgr htk hxi (v := .int .i64 x.off) rfl
      rw [Nat.add_zero] at k0
      have p1 := hlv.row_
      rw [HM.out] at p1
      have HX := qh hx
      have HXI := qh hxi
      have HGR := qh hgr
      have HBG := qh hbg
      have e0 : decide ((i : Int) < (m : Int)) = true := decide_eq_true (by omega)
      have e0n : decide (i < m) = true := decide_eq_true hlt
      have i0 : (0 : Int) ≤ (i : Int) := by omega
      have i1 : (i : Int) < (m : Int) := by omega
      have itn : (i : Int).toNat = i := by omega
      clear hx hxi e4 hg4 hbg hgr htk hlv hmv
      by_cases hoff : x.off = 0
      · rw [hoff] at k2
        have HBY := qh (fun u : ExtOf wr => inExt (u := u) (HC.out u.val x.node x.at' (HMV.out.ext u.ext) (HP.out x (List.mem_of_getElem? HX.out) hoff)))
        have HMX : Hid (moved f x = ⟨(f x.node x.at').1, (f x.node x.at').2, 0⟩) := qh (if_pos hoff)
        obtain ⟨n', hn'⟩ : ∃ n', (f x.node x.at').1 = n' := ⟨_, rfl⟩
        obtain ⟨a', ha'⟩ : ∃ a', (f x.node x.at').2 = a' := ⟨_, rfl⟩
        rw [hn', ha'] at HBY HMX
        have HOF := qh hoff
        clear hoff hn' ha'
        go_upto_region 4 with fail
        clear k2
        have r0 : ∀ u : ExtOf wr, u.val.cell? ⟨lb, 1, none⟩ = some (.slice (some ⟨g, 0, none⟩) m cap1) := fun u => u.ext.cell p1
        have r1 : ∀ u : ExtOf wr, u.val.cell? ⟨g, i * 3, none⟩ = some (.int .i64 x.node) := fun u => u.ext.cell k0
        have r2 : ∀ u : ExtOf wr, u.val.cell? ⟨g, i * 3 + 1, none⟩ = some (.int .i64 x.at') := fun u => u.ext.cell k1
        clear p1 k0 k1
        refine wp_region_ext_tail 17 (by kernel_rfl) (by kernel_rfl) ?_
        simp only [List.take_succ_cons, List.take_zero, List.drop_succ_cons, List.drop_zero]
        repeat (go_big_quiet_step ((go_at_fn fn; exact HBY.out _)))
        refine wpQuiet_nil ?_
        rintro _ ⟨u, rfl⟩
        have hx := u.ext
        obtain ⟨w5, hw5⟩ : ∃ W, u.val = W := ⟨_, rfl⟩
        rw [hw5] at hx ⊢
        clear r0 r1 r2 hw5
        clear u
        have hgr5 := hx.block HGR.out
        have HLV5 := HLV.out.ext hx
        have HMV5 := HMV.out.ext hx
        obtain ⟨cur5, hgr6, htk6⟩ : ∃ cur5, w5.heap[g]? = some (.cells cur5 83 (0, 0)) ∧ cur5.toList.take ((movedTo f H i).length * 3) = hcells (movedTo f H i) := by
          obtain ⟨a6, cap6, e6, -, hg6⟩ := HLV5.at
          obtain ⟨g6, cur6, ea6, hb6, hgr6, htk6, -⟩ := hg6 (by rw [movedTo_len, HM.out]; omega)
          rw [HBG.out] at hb6
          cases hb6
          exact ⟨cur6, hgr6, htk6⟩
        have k0 := hold_cell (f := 0) hgr6 htk6 HXI.out (v := .int .i64 x.node) rfl
        have k1 := hold_cell (f := 1) hgr6 htk6 HXI.out (v := .int .i64 x.at') rfl
        rw [Nat.add_zero] at k0
        have f0 := freeOf hgr6 (i * 3)
        have f1 := freeOf hgr6 (i * 3 + 1)
        have HF : Hid (LiveAt ((w5.setCell ⟨g, i * 3, none⟩ (.int .i64 n')).setCell ⟨g, i * 3 + 1, none⟩ (.int .i64 a')) own ptr lb tb T (.slice (some ⟨g, 0, none⟩) H.length cap1) hb (movedTo f H (i + 1)) ∧
            Mv (fun b => hb = some b) w ((w5.setCell ⟨g, i * 3, none⟩ (.int .i64 n')).setCell ⟨g, i * 3 + 1, none⟩ (.int .i64 a'))) := qh (by
          have s1 := HLV5.set (f := 0) (v := .int .i64 n') (p' := ⟨n', x.at', x.off⟩) HXI.out (by decide) rfl HBG.out
          have hi2 : ((movedTo f H i).set i ⟨n', x.at', x.off⟩)[i]? = some ⟨n', x.at', x.off⟩ := by
            rw [List.getElem?_set_self (by rw [movedTo_len, HM.out]; omega)]
          have s2 := s1.set (f := 1) (v := .int .i64 a') (p' := ⟨n', a', x.off⟩) hi2 (by decide) rfl HBG.out
          rw [List.set_set, HOF.out, ← HMX.out, movedTo_next f HX.out, Nat.add_zero] at s2
          exact ⟨s2, (HMV5.setCell (p := ⟨g, i * 3, none⟩) (fun _ => HBG.out) (.int .i64 n')).setCell (p := ⟨g, i * 3 + 1, none⟩) (fun _ => HBG.out) (.int .i64 a')⟩)
        clear hgr5 HLV5 HMV5 hgr6 htk6 hx
        go_wp2_with fail
        go_roundw
        case rel => exact ⟨i + 1, by omega, by go_num, HF.out⟩
        case measure => simp [intOf]; omega
      · have hof : (x.off == 0) = false := beq_eq_false_iff_ne.2 hoff
        have HMX : Hid (moved f x = x) := qh (if_neg hoff)
        clear hoff
        go_wp2_with fail
        go_roundw
        case rel =>
          refine ⟨i + 1, by omega, by go_num, ?_, HMV.out⟩
          rw [← movedTo_next f HX.out, HMX.out]
          have e : (movedTo f H i).set i x = movedTo f H i := by
            obtain ⟨h1, h2⟩ := List.getElem?_eq_some_iff.1 HXI.out
            rw [← h2]; exact List.set_getElem_self h1
          rw [e]
          exact HLV.out
        case measure => simp [intOf]; omega
    · have hie : i = m := by omega
      have e0 : decide ((i : Int) < (m : Int)) = false := decide_eq_false (by omega)
      have e0n : decide (i < m) = false := decide_eq_false hlt
      have HF : Hid (LiveAt wr own ptr lb tb T (.slice a1 H.length cap1) hb (H.map (moved f))) := qh (by have h9 := HLV.out; rw [hie, ← HM.out, movedTo_all] at h9; exact h9)
      clear hie hlt hlv hmv
      go_wp2_with fail
      go_end0
      exact ⟨rfl, HF.out, HMV.out⟩
end
def okP (n a : Int) : Prop := okI n ∧ okI a
theorem byGraft {w : World} {hb : Option Nat} {b0 b1 : Nat} (p q : Int) (o0 : okI p) (o1 : okI q) (h0 : w.heap[b0]? = some (.cells #[.int .i64 p] 3 (0, 0))) (g0 : hb ≠ some b0) (h1 : w.heap[b1]? = some (.cells #[.int .i64 q] 3 (0, 0))) (g1 : hb ≠ some b1) :
    ByIs w hb (.func (.func 81) #[] #[.pointer (some ⟨b0, 0, none⟩), .pointer (some ⟨b1, 0, none⟩)]) okP (fun n a => (n, insA n a p q 1)) := by
  refine ⟨_, _, rfl, enters_of Tryz.func81 (by kernel_rfl) rfl, fun W n a hm hP => ?_⟩
  show Calls Tryz.prog 81 #[pl n a, .pointer (some ⟨b0, 0, none⟩), .pointer (some ⟨b1, 0, none⟩)] W _
  have xa := (Ext.refl W).alloc (.cells #[.int .i64 n, .int .i64 a] 43)
  have hba := heap_alloc_new W (.cells #[.int .i64 n, .int .i64 a] 43)
  obtain ⟨wa, hwa⟩ : ∃ V : World, V = W.alloc (.cells #[.int .i64 n, .int .i64 a] 43) := ⟨_, rfl⟩
  have hsz : wa.heap.size = W.heap.size + 1 := by rw [hwa]; simp
  rw [← hwa] at xa hba
  have xb := (Ext.refl wa).alloc (.cells #[.int .i64 0, .int .i64 0] 43)
  have hbb := heap_alloc_new wa (.cells #[.int .i64 0, .int .i64 0] 43)
  have hab := xb.block hba
  obtain ⟨wb, hwb⟩ : ∃ V : World, V = wa.alloc (.cells #[.int .i64 0, .int .i64 0] 43) := ⟨_, rfl⟩
  rw [← hwb] at xb hbb hab
  have c0 := cellOf hab (i := 0) (v := .int .i64 n) rfl
  have c1 := cellOf hab (i := 1) (v := .int .i64 a) rfl
  have e0 := (xa.trans xb).cell (cellOf (hm.block h0 g0) (i := 0) (v := .int .i64 p) rfl)
  have e1 := (xa.trans xb).cell (cellOf (hm.block h1 g1) (i := 0) (v := .int .i64 q) rfl)
  have HC := qh (inserted_any n a p q 1 wb hP.1 hP.2 o0 o1 (by unfold okI; omega))
  have XB := qh (xa.trans xb)
  have HBB := qh hbb
  have HWA := qh hwa
  have HWB := qh hwb
  have HSZ := qh hsz
  clear xa xb hba hbb hab hwa hwb hm hsz
  go_enter Tryz.func81, Tryz.ntmps81
  go_upto_region 1 with fail
  rw [← HWA.out, ← HWB.out]
  obtain ⟨gb, hgb⟩ : ∃ g, wa.heap.size = g := ⟨_, rfl⟩
  have HGB := qh hgb
  have hg2 : W.heap.size + 1 = gb := by rw [← hgb, HSZ.out]
  first | rw [hgb] | rw [hg2]
  rw [hgb] at HBB
  clear hgb hg2
  go_wp2_with (go_at_call 74; refine HC.out.mono ?_)
  rintro e w2 ⟨rfl, x2⟩
  obtain ⟨a', ha'⟩ : ∃ z, insA n a p q 1 = z := ⟨_, rfl⟩
  rw [ha']
  have HA2 := qh ha'
  have hb2 := x2.block HBB.out
  have k0 := cellOf hb2 (i := 0) rfl
  have k1 := cellOf hb2 (i := 1) rfl
  have f0 := freeOf hb2 0
  have f1 := freeOf hb2 1
  have B3 : ((w2.setCell ⟨gb, 0, none⟩ (.int .i64 n)).setCell ⟨gb, 1, none⟩ (.int .i64 a')).heap[gb]? = some (.cells #[.int .i64 n, .int .i64 a'] 43 (0, 0)) := heap_setCell_same (i := 1) (heap_setCell_same (i := 0) hb2 (.int .i64 n)) (.int .i64 a')
  have HLV := qh (run_loadVar_row (P := Tryz.prog) _ gb 43 43 _ (0, 0) _ B3 Tryz.underlying43 rfl (by kernel_rfl))
  have hgt : W.heap.size ≤ gb := by have h1 := HGB.out; have h2 := HSZ.out; omega
  have XF := qh (((XB.out.trans x2).setCell (p := ⟨gb, 0, none⟩) hgt (.int .i64 n)).setCell (p := ⟨gb, 1, none⟩) hgt (.int .i64 a'))
  clear x2 hb2 B3 c0 c1 ha' hgt
  go_wp2_with fail
  have hlv := HLV.out
  refine bodyPost_ret (v := pl n a') (by simp [results, Tryz.results81, asAddr, hlv]) rfl ?_
  exact ⟨by show Ending.returned (pl n a') = Ending.returned (pl n (insA n a p q 1)); rw [HA2.out], XF.out⟩
theorem byInsert {w : World} {hb : Option Nat} {b0 b1 : Nat} (p q : Int) (o0 : okI p) (o1 : okI q) (h0 : w.heap[b0]? = some (.cells #[.int .i64 p] 3 (0, 0))) (g0 : hb ≠ some b0) (h1 : w.heap[b1]? = some (.cells #[.int .i64 q] 3 (0, 0))) (g1 : hb ≠ some b1) :
    ByIs w hb (.func (.func 73) #[] #[.pointer (some ⟨b0, 0, none⟩), .pointer (some ⟨b1, 0, none⟩)]) okP (fun n a => (n, insA n a p q 1)) := by
  refine ⟨_, _, rfl, enters_of Tryz.func73 (by kernel_rfl) rfl, fun W n a hm hP => ?_⟩
  show Calls Tryz.prog 73 #[pl n a, .pointer (some ⟨b0, 0, none⟩), .pointer (some ⟨b1, 0, none⟩)] W _
  have xa := (Ext.refl W).alloc (.cells #[.int .i64 n, .int .i64 a] 43)
  have hba := heap_alloc_new W (.cells #[.int .i64 n, .int .i64 a] 43)
  obtain ⟨wa, hwa⟩ : ∃ V : World, V = W.alloc (.cells #[.int .i64 n, .int .i64 a] 43) := ⟨_, rfl⟩
  have hsz : wa.heap.size = W.heap.size + 1 := by rw [hwa]; simp
  rw [← hwa] at xa hba
  have xb := (Ext.refl wa).alloc (.cells #[.int .i64 0, .int .i64 0] 43)
  have hbb := heap_alloc_new wa (.cells #[.int .i64 0, .int .i64 0] 43)
  have hab := xb.block hba
  obtain ⟨wb, hwb⟩ : ∃ V : World, V = wa.alloc (.cells #[.int .i64 0, .int .i64 0] 43) := ⟨_, rfl⟩
  rw [← hwb] at xb hbb hab
  have c0 := cellOf hab (i := 0) (v := .int .i64 n) rfl
  have c1 := cellOf hab (i := 1) (v := .int .i64 a) rfl
  have e0 := (xa.trans xb).cell (cellOf (hm.block h0 g0) (i := 0) (v := .int .i64 p) rfl)
  have e1 := (xa.trans xb).cell (cellOf (hm.block h1 g1) (i := 0) (v := .int .i64 q) rfl)
  have HC := qh (inserted_any n a p q 1 wb hP.1 hP.2 o0 o1 (by unfold okI; omega))
  have XB := qh (xa.trans xb)
  have HBB := qh hbb
  have HWA := qh hwa
  have HWB := qh hwb
  have HSZ := qh hsz
  clear xa xb hba hbb hab hwa hwb hm hsz
  go_enter Tryz.func73, Tryz.ntmps73
  go_upto_region 1 with fail
  rw [← HWA.out, ← HWB.out]
  obtain ⟨gb, hgb⟩ : ∃ g, wa.heap.size = g := ⟨_, rfl⟩
  have HGB := qh hgb
  have hg2 : W.heap.size + 1 = gb := by rw [← hgb, HSZ.out]
  first | rw [hgb] | rw [hg2]
  rw [hgb] at HBB
  clear hgb hg2
  go_wp2_with (go_at_call 74; refine HC.out.mono ?_)
  rintro e w2 ⟨rfl, x2⟩
  obtain ⟨a', ha'⟩ : ∃ z, insA n a p q 1 = z := ⟨_, rfl⟩
  rw [ha']
  have HA2 := qh ha'
  have hb2 := x2.block HBB.out
  have k0 := cellOf hb2 (i := 0) rfl
  have k1 := cellOf hb2 (i := 1) rfl
  have f0 := freeOf hb2 0
  have f1 := freeOf hb2 1
  have B3 : ((w2.setCell ⟨gb, 0, none⟩ (.int .i64 n)).setCell ⟨gb, 1, none⟩ (.int .i64 a')).heap[gb]? = some (.cells #[.int .i64 n, .int .i64 a'] 43 (0, 0)) := heap_setCell_same (i := 1) (heap_setCell_same (i := 0) hb2 (.int .i64 n)) (.int .i64 a')
  have HLV := qh (run_loadVar_row (P := Tryz.prog) _ gb 43 43 _ (0, 0) _ B3 Tryz.underlying43 rfl (by kernel_rfl))
  have hgt : W.heap.size ≤ gb := by have h1 := HGB.out; have h2 := HSZ.out; omega
  have XF := qh (((XB.out.trans x2).setCell (p := ⟨gb, 0, none⟩) hgt (.int .i64 n)).setCell (p := ⟨gb, 1, none⟩) hgt (.int .i64 a'))
  clear x2 hb2 B3 c0 c1 ha' hgt
  go_wp2_with fail
  have hlv := HLV.out
  refine bodyPost_ret (v := pl n a') (by simp [results, Tryz.results73, asAddr, hlv]) rfl ?_
  exact ⟨by show Ending.returned (pl n a') = Ending.returned (pl n (insA n a p q 1)); rw [HA2.out], XF.out⟩
theorem byReplace {w : World} {hb : Option Nat} {b0 b1 b2 b3 : Nat} (p q c m : Int) (o0 : okI p) (o1 : okI q) (o2 : okI c) (o3 : okI m) (h0 : w.heap[b0]? = some (.cells #[.int .i64 p] 3 (0, 0))) (g0 : hb ≠ some b0) (h1 : w.heap[b1]? = some (.cells #[.int .i64 q] 3 (0, 0))) (g1 : hb ≠ some b1) (h2 : w.heap[b2]? = some (.cells #[.int .i64 c] 3 (0, 0))) (g2 : hb ≠ some b2) (h3 : w.heap[b3]? = some (.cells #[.int .i64 m] 3 (0, 0))) (g3 : hb ≠ some b3) :
    ByIs w hb (.func (.func 128) #[] #[.pointer (some ⟨b0, 0, none⟩), .pointer (some ⟨b1, 0, none⟩), .pointer (some ⟨b2, 0, none⟩), .pointer (some ⟨b3, 0, none⟩)]) okP (fun n a => (n, repA n a p q c m)) := by
  refine ⟨_, _, rfl, enters_of Tryz.func128 (by kernel_rfl) rfl, fun W n a hm hP => ?_⟩
  show Calls Tryz.prog 128 #[pl n a, .pointer (some ⟨b0, 0, none⟩), .pointer (some ⟨b1, 0, none⟩), .pointer (some ⟨b2, 0, none⟩), .pointer (some ⟨b3, 0, none⟩)] W _
  have xa := (Ext.refl W).alloc (.cells #[.int .i64 n, .int .i64 a] 43)
  have hba := heap_alloc_new W (.cells #[.int .i64 n, .int .i64 a] 43)
  obtain ⟨wa, hwa⟩ : ∃ V : World, V = W.alloc (.cells #[.int .i64 n, .int .i64 a] 43) := ⟨_, rfl⟩
  have hsz : wa.heap.size = W.heap.size + 1 := by rw [hwa]; simp
  rw [← hwa] at xa hba
  have xb := (Ext.refl wa).alloc (.cells #[.int .i64 0, .int .i64 0] 43)
  have hbb := heap_alloc_new wa (.cells #[.int .i64 0, .int .i64 0] 43)
  have hab := xb.block hba
  obtain ⟨wb, hwb⟩ : ∃ V : World, V = wa.alloc (.cells #[.int .i64 0, .int .i64 0] 43) := ⟨_, rfl⟩
  rw [← hwb] at xb hbb hab
  have c0 := cellOf hab (i := 0) (v := .int .i64 n) rfl
  have c1 := cellOf hab (i := 1) (v := .int .i64 a) rfl
  have e0 := (xa.trans xb).cell (cellOf (hm.block h0 g0) (i := 0) (v := .int .i64 p) rfl)
  have e1 := (xa.trans xb).cell (cellOf (hm.block h1 g1) (i := 0) (v := .int .i64 q) rfl)
  have e2 := (xa.trans xb).cell (cellOf (hm.block h2 g2) (i := 0) (v := .int .i64 c) rfl)
  have e3 := (xa.trans xb).cell (cellOf (hm.block h3 g3) (i := 0) (v := .int .i64 m) rfl)
  have HC := qh (replaced_any n a p q c m wb hP.1 hP.2 o0 o1 o2 o3)
  have XB := qh (xa.trans xb)
  have HBB := qh hbb
  have HWA := qh hwa
  have HWB := qh hwb
  have HSZ := qh hsz
  clear xa xb hba hbb hab hwa hwb hm hsz
  go_enter Tryz.func128, Tryz.ntmps128
  go_upto_region 1 with fail
  rw [← HWA.out, ← HWB.out]
  obtain ⟨gb, hgb⟩ : ∃ g, wa.heap.size = g := ⟨_, rfl⟩
  have HGB := qh hgb
  have hg2 : W.heap.size + 1 = gb := by rw [← hgb, HSZ.out]
  first | rw [hgb] | rw [hg2]
  rw [hgb] at HBB
  clear hgb hg2
  go_wp2_with (go_at_call 129; refine HC.out.mono ?_)
  rintro e w2 ⟨rfl, x2⟩
  obtain ⟨a', ha'⟩ : ∃ z, repA n a p q c m = z := ⟨_, rfl⟩
  rw [ha']
  have HA2 := qh ha'
  have hb2 := x2.block HBB.out
  have k0 := cellOf hb2 (i := 0) rfl
  have k1 := cellOf hb2 (i := 1) rfl
  have f0 := freeOf hb2 0
  have f1 := freeOf hb2 1
  have B3 : ((w2.setCell ⟨gb, 0, none⟩ (.int .i64 n)).setCell ⟨gb, 1, none⟩ (.int .i64 a')).heap[gb]? = some (.cells #[.int .i64 n, .int .i64 a'] 43 (0, 0)) := heap_setCell_same (i := 1) (heap_setCell_same (i := 0) hb2 (.int .i64 n)) (.int .i64 a')
  have HLV := qh (run_loadVar_row (P := Tryz.prog) _ gb 43 43 _ (0, 0) _ B3 Tryz.underlying43 rfl (by kernel_rfl))
  have hgt : W.heap.size ≤ gb := by have h1 := HGB.out; have h2 := HSZ.out; omega
  have XF := qh (((XB.out.trans x2).setCell (p := ⟨gb, 0, none⟩) hgt (.int .i64 n)).setCell (p := ⟨gb, 1, none⟩) hgt (.int .i64 a'))
  clear x2 hb2 B3 c0 c1 ha' hgt
  go_wp2_with fail
  have hlv := HLV.out
  refine bodyPost_ret (v := pl n a') (by simp [results, Tryz.results128, asAddr, hlv]) rfl ?_
  exact ⟨by show Ending.returned (pl n a') = Ending.returned (pl n (repA n a p q c m)); rw [HA2.out], XF.out⟩
theorem LStep.move {own : Ow} {lb : Nat} {hb : Option Nat} {w w' : World} (h : Mv (fun b => hb = some b) w w') : LStep own lb hb w own hb w' := ⟨h.imp fun _ _ h => .inr (.inr h), fun _ _ => rfl, fun _ h => .inl h⟩
def insP (p q m : Int) : Int → Int → Int × Int := fun n a => (n, insA n a p q m)
def repP (p q c m : Int) : Int → Int → Int × Int := fun n a => (n, repA n a p q c m)
def movedIf (er : Int) (f : Int → Int → Int × Int) (H : List Hd) : List Hd := if er = 0 then H.map (moved f) else H
def okH (H : List Hd) : Prop := ∀ x ∈ H, x.off = 0 → okP x.node x.at'
section
variable {w : World} {own : Ow} {ptr : Nat → Nat} {lb tb : Nat} {T : Tr} {hv : Value} {hb : Option Nat} {H : List Hd}
def LTwo (own : Ow) (lb tb : Nat) (hb : Option Nat) (w : World) (i er : Int) (T' : Tr) (H' : List Hd) (e : Ending) (w' : World) : Prop := e = .returned (.tuple #[.int .i64 i, .int .i64 er]) ∧ LAfter own lb tb hb w T' H' w'
def LErr (own : Ow) (lb tb : Nat) (hb : Option Nat) (w : World) (er : Int) (T' : Tr) (H' : List Hd) (e : Ending) (w' : World) : Prop := e = .returned (.int .i64 er) ∧ LAfter own lb tb hb w T' H' w'
theorem LiveAt.new_own (h : LiveAt w own ptr lb tb T hv hb H) {b : Nat} (hbz : w.heap.size ≤ b) : own b = none ∧ b ≠ lb ∧ hb ≠ some b :=
  ⟨Decidable.byContradiction fun hn => by have := h.ownd b hn; omega, fun e => by have := h.lt; omega, fun e => by have := (h.nrow b e).2.2; omega⟩
theorem lGraft_any (h : LiveAt w own ptr lb tb T hv hb H) (hl : H.length ≤ 100000) (p q : Int) (v0 v1 v2 v3 : Value) {i er : Int} {T' : Tr}
    (hd : ∀ W, Ext w W → Calls Tryz.prog 80 #[.pointer (some ⟨tb, 0, none⟩), .int .i64 p, .int .i64 q, .agg #[v0, v1, v2, v3]] W (fun e w' => e = .returned (.tuple #[.int .i64 i, .int .i64 er]) ∧ After own W tb T' w'))
    (h1 : v0.oneCell' = true ∧ v1.oneCell' = true ∧ v2.oneCell' = true ∧ v3.oneCell' = true) (hP : er = 0 → okI p ∧ okI q ∧ okH H) :
    Calls Tryz.prog 28 #[.pointer (some ⟨lb, 0, none⟩), .int .i64 p, .int .i64 q, .agg #[v0, v1, v2, v3]] w (LTwo own lb tb hb w i er T' (movedIf er (insP p q 1) H)) := by
  have xa := (Ext.refl w).alloc (.cells #[.int .i64 p] 3)
  have ha := heap_alloc_new w (.cells #[.int .i64 p] 3)
  obtain ⟨wa, hwa⟩ : ∃ W : World, W = w.alloc (.cells #[.int .i64 p] 3) := ⟨_, rfl⟩
  have sa : wa.heap.size = w.heap.size + 1 := by rw [hwa]; simp
  rw [← hwa] at xa ha
  have xb := (Ext.refl wa).alloc (.cells #[.int .i64 q] 3)
  have hbq := heap_alloc_new wa (.cells #[.int .i64 q] 3)
  obtain ⟨wb, hwb⟩ : ∃ W : World, W = wa.alloc (.cells #[.int .i64 q] 3) := ⟨_, rfl⟩
  have sb : wb.heap.size = wa.heap.size + 1 := by rw [hwb]; simp
  rw [← hwb] at xb hbq
  have xc := (Ext.refl wb).alloc (.cells #[v0, v1, v2, v3] 35)
  have hc := heap_alloc_new wb (.cells #[v0, v1, v2, v3] 35)
  obtain ⟨wc, hwc⟩ : ∃ W : World, W = wb.alloc (.cells #[v0, v1, v2, v3] 35) := ⟨_, rfl⟩
  rw [← hwc] at xc hc
  have HP := qh (xc.block (xb.block ha))
  have HQ := qh (xc.block hbq)
  have HCN := qh hc
  obtain ⟨bp, hbp⟩ : ∃ b, w.heap.size = b := ⟨_, rfl⟩
  obtain ⟨bq, hbq2⟩ : ∃ b, wa.heap.size = b := ⟨_, rfl⟩
  obtain ⟨bn, hbn⟩ : ∃ b, wb.heap.size = b := ⟨_, rfl⟩
  have hq2 : bp + 1 = bq := by omega
  have hn2 : bp + 1 + 1 = bn := by omega
  rw [hbp] at HP
  rw [hbq2] at HQ
  rw [hbn] at HCN
  have XC := qh ((xa.trans xb).trans xc)
  have HH := qh h
  have HD := qh hd
  have HPP := qh hP
  have HL := qh hl
  have HWA := qh hwa
  have HWB := qh hwb
  have HWC := qh hwc
  have HBP := qh hbp
  have HBQ := qh (And.intro hbq2 hq2)
  have HBN := qh (And.intro hbn hn2)
  have NP := qh (h.new_own (b := bp) (by omega))
  have NQ := qh (h.new_own (b := bq) (by omega))
  have hmf : ∀ (fn : Fn) (first cap : Array Value) (w : World), (Instr.makeFunc fn first cap).run Tryz.prog w = .ok (.func fn first cap) w := fun _ _ _ _ => rfl
  obtain ⟨o0, o1, o2, o3⟩ := h1
  have HNN := qh (fun W (x : Ext w W) => none_some (h.ext x).ptr_)
  clear h hd hP hl xa ha hwa sa xb hbq hwb sb xc hc hwc hbp hbq2 hbn hq2 hn2
  go_enter Tryz.func28, Tryz.ntmps28
  go_upto_region 1 with fail
  rw [← HWA.out, ← HWB.out, ← HWC.out, HBP.out]
  first | rw [HBQ.out.1, HBN.out.1] | rw [HBN.out.2, HBQ.out.2]
  go_upto_region 3 with (go_at_call 47; refine (HNN.out _ XC.out).mono ?_; rintro e w' ⟨rfl, rfl⟩)
  have r0 : ∀ u : ExtOf wc, u.val.cell? ⟨lb, 0, none⟩ = some (.pointer (some ⟨tb, 0, none⟩)) := fun u => u.ext.cell (HH.out.ext XC.out).ptr_
  have r1 : ∀ u : ExtOf wc, u.val.cell? ⟨bp, 0, none⟩ = some (.int .i64 p) := fun u => u.ext.cell (cellOf HP.out rfl)
  have r2 : ∀ u : ExtOf wc, u.val.cell? ⟨bq, 0, none⟩ = some (.int .i64 q) := fun u => u.ext.cell (cellOf HQ.out rfl)
  have r3 : ∀ u : ExtOf wc, u.val.cell? ⟨bn, 0, none⟩ = some v0 := fun u => u.ext.cell (cellOf HCN.out rfl)
  have r4 : ∀ u : ExtOf wc, u.val.cell? ⟨bn, 1, none⟩ = some v1 := fun u => u.ext.cell (cellOf HCN.out rfl)
  have r5 : ∀ u : ExtOf wc, u.val.cell? ⟨bn, 2, none⟩ = some v2 := fun u => u.ext.cell (cellOf HCN.out rfl)
  have r6 : ∀ u : ExtOf wc, u.val.cell? ⟨bn, 3, none⟩ = some v3 := fun u => u.ext.cell (cellOf HCN.out rfl)
  refine wp_region_ext_mid 7 _ rfl (by kernel_rfl) (by kernel_rfl) ?_
  simp only [List.take_succ_cons, List.take_zero, List.drop_succ_cons, List.drop_zero]
  repeat (go_big_quiet_step (fail))
  refine wpQuiet_nil ?_
  rintro _ ⟨u, rfl⟩ K hK
  have HK := qh hK
  have hx := u.ext
  obtain ⟨w5, hw5⟩ : ∃ W, u.val = W := ⟨_, rfl⟩
  rw [hw5] at hx ⊢
  clear r0 r1 r2 r3 r4 r5 r6 hw5 hK
  clear u
  have X5 := qh (XC.out.trans hx)
  have HP5 := qh (hx.block HP.out)
  have HQ5 := qh (hx.block HQ.out)
  clear hx
  go_simp
  go_at_call 80
  refine (HD.out _ X5.out).mono ?_
  rintro e w6 ⟨rfl, ha⟩
  obtain ⟨own', ptr', hT6, hS6, hst⟩ := (HH.out.ext X5.out).after ha
  have HP6 := qh (hst.mv.block HP5.out (fun hn => hn NP.out.1))
  have HQ6 := qh (hst.mv.block HQ5.out (fun hn => hn NQ.out.1))
  have HT6 := qh hT6
  have HS6 := qh (((LStep.refl own lb hb w).ext X5.out).trans hS6)
  clear ha hT6 hS6 hst
  refine HK.out _ _ ?_
  clear HK K
  repeat (go_big_quiet_step (fail))
  refine wpQuiet_nil ?_
  rintro _ ⟨u, rfl⟩
  have HT6 := qh (HT6.out.ext u.ext)
  have HS6 := qh (HS6.out.ext u.ext)
  have HP6 := qh (u.ext.block HP6.out)
  have HQ6 := qh (u.ext.block HQ6.out)
  by_cases her : er = 0
  · subst her
    obtain ⟨op, oq, oh⟩ := HPP.out rfl
    have HMV := qh (lMove_any HT6.out HL.out oh (byGraft p q op oq HP6.out NP.out.2.2 HQ6.out NQ.out.2.2))
    clear op oq oh
    go_wp2_with (go_at_call 56; refine HMV.out.mono ?_)
    rintro e w7 ⟨rfl, hT7, hm7⟩
    have HF : Hid (LAfter own lb tb hb w T' (H.map (moved (insP p q 1))) w7) := qh ⟨own', ptr', _, _, hT7, HS6.out.trans (LStep.move hm7)⟩
    clear hT7 hm7
    go_wp2_with fail
    go_ret2
    exact ⟨rfl, by unfold movedIf; rw [if_pos rfl]; exact HF.out⟩
  · have e0 : (er == 0) = false := beq_eq_false_iff_ne.2 her
    have HE := qh her
    clear her
    go_wp2_with fail
    go_ret2
    exact ⟨rfl, by unfold movedIf; rw [if_neg HE.out]; exact ⟨own', ptr', _, _, HT6.out, HS6.out⟩⟩
end
theorem run_toRunes (s : ByteArray) (hs : s.size ≤ 1000000) (w : World) : ∃ (K : Nat) (C : Array Value), (convert 9 115 (.string s)).run Tryz.prog w = .ok (.slice (some ⟨w.heap.size, 0, none⟩) (runeList s s.size 0).length K) (w.drew.alloc (.cells C 21)) ∧
    (runeList s s.size 0).length ≤ K ∧ ∀ (j : Nat) (z : Int), (runeList s s.size 0)[j]? = some z → C[j]? = some (Value.int .i32 z) := by
  have h1 := run_runes_of_string (P := Tryz.prog) w 9 115 21 s Tryz.underlying9 Tryz.underlying115 Tryz.underlying21 (by have := size_runesFrom s s.size 0 #[]; simp at this; omega)
  have e1 : Conv.runesFrom s s.size 0 #[] = ((runeList s s.size 0).map (Value.int .i32)).toArray := by rw [runesFrom_eq]; simp
  rw [e1] at h1
  simp only [List.size_toArray, List.length_map] at h1
  refine ⟨_, _, h1, grownCap_ge w _ 0 21, fun j z hj => ?_⟩
  have hjl := (List.getElem?_eq_some_iff.1 hj).1
  rw [Array.getElem?_append_left (by simpa using hjl)]
  simp [hj]
section
variable {w : World} {own : Ow} {ptr : Nat → Nat} {lb tb : Nat} {T : Tr} {hv : Value} {hb : Option Nat} {H : List Hd}
theorem lreplace_any (h : LiveAt w own ptr lb tb T hv hb H) (hl : H.length ≤ 100000) (p q c : Int) (s all : ByteArray) (hs : s.size ≤ 1000000) {er : Int} {T' : Tr}
    (hd : ∀ W, Ext w W → Calls Tryz.prog 127 #[.pointer (some ⟨tb, 0, none⟩), .int .i64 p, .string all] W (ErrAfter own W tb er T'))
    (hP : er = 0 → okI p ∧ okI q ∧ okI c ∧ okH H) :
    Calls Tryz.prog 78 #[.pointer (some ⟨lb, 0, none⟩), .int .i64 p, .int .i64 q, .int .i64 c, .string s, .string all] w (LErr own lb tb hb w er T' (movedIf er (repP p q c (runeList s s.size 0).length) H)) := by
  have xa := (Ext.refl w).alloc (.cells #[.int .i64 p] 3)
  have ha := heap_alloc_new w (.cells #[.int .i64 p] 3)
  obtain ⟨wa, hwa⟩ : ∃ W : World, W = w.alloc (.cells #[.int .i64 p] 3) := ⟨_, rfl⟩
  have sa : wa.heap.size = w.heap.size + 1 := by rw [hwa]; simp
  rw [← hwa] at xa ha
  have xb := (Ext.refl wa).alloc (.cells #[.int .i64 q] 3)
  have hbq := heap_alloc_new wa (.cells #[.int .i64 q] 3)
  obtain ⟨wb, hwb⟩ : ∃ W : World, W = wa.alloc (.cells #[.int .i64 q] 3) := ⟨_, rfl⟩
  have sb : wb.heap.size = wa.heap.size + 1 := by rw [hwb]; simp
  rw [← hwb] at xb hbq
  have xc := (Ext.refl wb).alloc (.cells #[.int .i64 c] 3)
  have hc := heap_alloc_new wb (.cells #[.int .i64 c] 3)
  obtain ⟨wc, hwc⟩ : ∃ W : World, W = wb.alloc (.cells #[.int .i64 c] 3) := ⟨_, rfl⟩
  rw [← hwc] at xc hc
  have HP := qh (xc.block (xb.block ha))
  have HQ := qh (xc.block hbq)
  have HCN := qh hc
  obtain ⟨bp, hbp⟩ : ∃ b, w.heap.size = b := ⟨_, rfl⟩
  obtain ⟨bq, hbq2⟩ : ∃ b, wa.heap.size = b := ⟨_, rfl⟩
  obtain ⟨bn, hbn⟩ : ∃ b, wb.heap.size = b := ⟨_, rfl⟩
  have hq2 : bp + 1 = bq := by omega
  have hn2 : bp + 1 + 1 = bn := by omega
  rw [hbp] at HP
  rw [hbq2] at HQ
  rw [hbn] at HCN
  have XC := qh ((xa.trans xb).trans xc)
  have HH := qh h
  have HD := qh hd
  have HPP := qh hP
  have HL := qh hl
  have HS := qh hs
  have HWA := qh hwa
  have HWB := qh hwb
  have HWC := qh hwc
  have HBP := qh hbp
  have HBQ := qh (And.intro hbq2 hq2)
  have HBN := qh (And.intro hbn hn2)
  have NP := qh (h.new_own (b := bp) (by omega))
  have NQ := qh (h.new_own (b := bq) (by omega))
  have NN := qh (h.new_own (b := bn) (by omega))
  have hmf : ∀ (fn : Fn) (first cap : Array Value) (w : World), (Instr.makeFunc fn first cap).run Tryz.prog w = .ok (.func fn first cap) w := fun _ _ _ _ => rfl
  obtain ⟨m, hm⟩ : ∃ m, (runeList s s.size 0).length = m := ⟨_, rfl⟩
  rw [hm]
  have HM := qh hm
  have hm2 : m ≤ 1000000 := by have := runeList_len s s.size 0; omega
  have HM2 := qh hm2
  clear h hd hP hl xa ha hwa sa xb hbq hwb sb xc hc hwc hbp hbq2 hbn hq2 hn2 hs hm hm2
  go_enter Tryz.func78, Tryz.ntmps78
  go_upto_region 1 with fail
  rw [← HWA.out, ← HWB.out, ← HWC.out, HBP.out]
  first | rw [HBQ.out.1, HBN.out.1] | rw [HBN.out.2, HBQ.out.2]
  have r0 : ∀ u : ExtOf wc, u.val.cell? ⟨lb, 0, none⟩ = some (.pointer (some ⟨tb, 0, none⟩)) := fun u => u.ext.cell (HH.out.ext XC.out).ptr_
  have r1 : ∀ u : ExtOf wc, u.val.cell? ⟨bp, 0, none⟩ = some (.int .i64 p) := fun u => u.ext.cell (cellOf HP.out rfl)
  refine wp_region_ext_mid 6 _ rfl (by kernel_rfl) (by kernel_rfl) ?_
  simp only [List.take_succ_cons, List.take_zero, List.drop_succ_cons, List.drop_zero]
  repeat (go_big_quiet_step (fail))
  refine wpQuiet_nil ?_
  rintro _ ⟨u, rfl⟩ K hK
  have HK := qh hK
  have hx := u.ext
  obtain ⟨w5, hw5⟩ : ∃ W, u.val = W := ⟨_, rfl⟩
  rw [hw5] at hx ⊢
  clear r0 r1 hw5 hK
  clear u
  have X5 := qh (XC.out.trans hx)
  have HP5 := qh (hx.block HP.out)
  have HQ5 := qh (hx.block HQ.out)
  have HN5 := qh (hx.block HCN.out)
  clear hx
  go_simp
  go_at_call 127
  refine (HD.out _ X5.out).mono ?_
  rintro e w6 ⟨rfl, ha⟩
  obtain ⟨own', ptr', hT6, hS6, hst⟩ := (HH.out.ext X5.out).after ha
  have HP6 := qh (hst.mv.block HP5.out (fun hn => hn NP.out.1))
  have HQ6 := qh (hst.mv.block HQ5.out (fun hn => hn NQ.out.1))
  have HN6 := qh (hst.mv.block HN5.out (fun hn => hn NN.out.1))
  have HT6 := qh hT6
  have HS6 := qh (((LStep.refl own lb hb w).ext X5.out).trans hS6)
  clear ha hT6 hS6 hst
  refine HK.out _ _ ?_
  clear HK K
  repeat (go_big_quiet_step (fail))
  refine wpQuiet_nil ?_
  rintro _ ⟨u, rfl⟩
  obtain ⟨w7, hw7⟩ : ∃ W, u.val = W := ⟨_, rfl⟩
  have hx := u.ext
  rw [hw7] at hx ⊢
  have HT6 := qh (HT6.out.ext hx)
  have HS6 := qh (HS6.out.ext hx)
  have HP6 := qh (hx.block HP6.out)
  have HQ6 := qh (hx.block HQ6.out)
  have HN6 := qh (hx.block HN6.out)
  clear hx hw7
  clear u
  by_cases her : er = 0
  · subst her
    obtain ⟨op, oq, oc, oh⟩ := HPP.out rfl
    have OP := qh (And.intro op (And.intro oq (And.intro oc oh)))
    obtain ⟨K1, C1, hcv, -, -⟩ := run_toRunes s HS.out w7
    rw [HM.out] at hcv
    have HCV := qh hcv
    clear op oq oc oh hcv
    go_wp2_with fail
    rw [HCV.out]
    have xd := ((Ext.refl w7).drew.alloc (.cells C1 21)).alloc (.cells #[.int .i64 (m : Int)] 3)
    have hd := heap_alloc_new (w7.drew.alloc (.cells C1 21)) (.cells #[.int .i64 (m : Int)] 3)
    have hdz : (w7.drew.alloc (.cells C1 21)).heap.size = w7.heap.size + 1 := by simp
    rw [hdz] at hd
    go_upto_region 4 with fail
    have xz : Ext w7 ((w7.alloc (.cells C1 21)).alloc (.cells #[.int .i64 (m : Int)] 3)).drew := (((Ext.refl w7).alloc _).alloc _).drew
    have hz : ((w7.alloc (.cells C1 21)).alloc (.cells #[.int .i64 (m : Int)] 3)).drew.heap[w7.heap.size + 1]? = some (.cells #[.int .i64 (m : Int)] 3 (0, 0)) := hd
    obtain ⟨wz, hwz⟩ : ∃ W : World, W = ((w7.alloc (.cells C1 21)).alloc (.cells #[.int .i64 (m : Int)] 3)).drew := ⟨_, rfl⟩
    rw [← hwz] at xz hz ⊢
    clear hwz xd hd hdz
    have hnz : hb ≠ some (w7.heap.size + 1) := fun e => by have := (HT6.out.nrow _ e).2.2; omega
    obtain ⟨bm, hbm⟩ : ∃ b, w7.heap.size + 1 = b := ⟨_, rfl⟩
    rw [hbm] at hz hnz ⊢
    have HMV := qh (lMove_any (HT6.out.ext xz) HL.out OP.out.2.2.2 (byReplace p q c (m : Int) OP.out.1 OP.out.2.1 OP.out.2.2.1 (by have := HM2.out; unfold okI; omega) (xz.block HP6.out) NP.out.2.2 (xz.block HQ6.out) NQ.out.2.2 (xz.block HN6.out) NN.out.2.2 hz hnz))
    have HSZ := qh (HS6.out.ext xz)
    clear xz hz hnz hbm
    go_wp2_with (go_at_call 56; refine HMV.out.mono ?_)
    rintro e w8 ⟨rfl, hT8, hm8⟩
    have HF : Hid (LAfter own lb tb hb w T' (H.map (moved (repP p q c (m : Int)))) w8) := qh ⟨own', ptr', _, _, hT8, HSZ.out.trans (LStep.move hm8)⟩
    clear hT8 hm8
    go_wp2_with fail
    go_ret
    exact ⟨rfl, by unfold movedIf; rw [if_pos rfl]; exact HF.out⟩
  · have e0 : (er == 0) = false := beq_eq_false_iff_ne.2 her
    have HE := qh her
    clear her
    go_wp2_with fail
    go_ret
    exact ⟨rfl, by unfold movedIf; rw [if_neg HE.out]; exact ⟨own', ptr', _, _, HT6.out, HS6.out⟩⟩
end
def replT (t : ByteArray) (a c : Nat) (s : ByteArray) : ByteArray := runesBytes ((runeList t t.size 0).take a) ++ s ++ runesBytes ((runeList t t.size 0).drop (a + c))
section
variable {w : World} {own : Ow} {ptr : Nat → Nat} {lb tb : Nat} {T : Tr} {hv : Value} {hb : Option Nat} {H : List Hd}
theorem lReplace_any (h : LiveAt w own ptr lb tb T hv hb H) (hl : H.length ≤ 100000) {d : Nat → Nat} (hw : WF T d) (hA : AttrsOk T) (id : Int) {nd : Nd} (hg : T.get? id = some nd) (ht : nd.tag = 0) (a c : Nat) (ha : a ≤ runes nd.text) (s : ByteArray) (hs : s.size ≤ 1000000)
    {c' : Nat} (hcc : min c (runes nd.text - a) = c') {er : Int} {T' : Tr}
    (hd : ∀ W, Ext w W → Calls Tryz.prog 127 #[.pointer (some ⟨tb, 0, none⟩), .int .i64 id, .string (replT nd.text a c' s)] W (ErrAfter own W tb er T'))
    (hP : er = 0 → okI id ∧ okH H) :
    Calls Tryz.prog 26 #[.pointer (some ⟨lb, 0, none⟩), .int .i64 id, .int .i64 (a : Int), .int .i64 (c : Int), .string s] w (LErr own lb tb hb w er T' (movedIf er (repP id a c' (runeList s s.size 0).length) H)) := by
  have hlen : T.lengthOf id = (runes nd.text : Int) := by
    unfold Tr.lengthOf Tr.tagOf Tr.txt
    rw [hg]
    simp [ht]
  have hL8 : runes nd.text ≤ 8192 := Nat.le_trans (runes_le _) (hA _ nd (Tr.get_lt hg).2.2).2
  have htz : nd.text.size ≤ 1000000 := by have := (hA _ nd (Tr.get_lt hg).2.2).2; omega
  have HNN := qh (none_some h.ptr_)
  have HHAS := qh (Has_some h.tree hg)
  have hta := Tag_some h.tree hg
  rw [ht] at hta
  have HTAG := qh hta
  have hle := Length_any (h.tree.tat h.ownd) hw hA id
  rw [hlen] at hle
  have HLE := qh hle
  have p0 := h.ptr_
  obtain ⟨tx, htx⟩ : ∃ x, nd.text = x := ⟨_, rfl⟩
  rw [htx] at ha hcc hd HLE hL8 htz
  have HTO := qh (fun W (x : Ext w W) => by have h9 := Told_some (h.ext x).tree hg; rw [htx] at h9; exact h9)
  obtain ⟨L, hLn⟩ : ∃ L, runes tx = L := ⟨_, rfl⟩
  rw [hLn] at ha hcc HLE hL8
  have HLN := qh hLn
  have HH := qh h
  have HD := qh hd
  have HPP := qh hP
  have HL := qh hl
  have HS := qh hs
  have HTZ := qh htz
  have HCC := qh hcc
  have hac : a + c' ≤ L := by omega
  have e1 : decide ((a : Int) < 0) = false := decide_eq_false (by omega)
  have e2 : decide ((L : Int) < (a : Int)) = false := decide_eq_false (by omega)
  have e2n : decide (L < a) = false := decide_eq_false (by omega)
  have e3 : decide ((c : Int) < 0) = false := decide_eq_false (by omega)
  have e4 : IntKind.i64.wrap ((L : Int) - (a : Int)) = ((L - a : Nat) : Int) := by rw [IntWalk.i64_in _ (by omega)]; omega
  clear h hw hA hg ht hd hP hl hs hlen hta hle htx hLn hcc htz
  go_enter Tryz.func26, Tryz.ntmps26
  go_wp2_with (go_at_call 47; refine HNN.out.mono ?_; rintro e w' ⟨rfl, rfl⟩)
  go_wp2_with (go_at_call 75; refine HHAS.out.mono ?_; rintro e w' ⟨rfl, rfl⟩)
  go_wp2_with (go_at_call 76; refine HTAG.out.mono ?_; rintro e w' ⟨rfl, rfl⟩)
  go_wp2_with (go_at_call 49; refine HLE.out.mono ?_)
  rintro e w1 ⟨rfl, x1⟩
  have X1 := qh x1
  have p0 := x1.cell p0
  clear x1
  go_wp2_with (go_at_call 77; refine (HTO.out _ X1.out).mono ?_; rintro e w' ⟨rfl, rfl⟩)
  obtain ⟨K1, C1, hcv, hK1, hC1⟩ := run_toRunes tx HTZ.out w1
  have hll : (runeList tx tx.size 0).length = L := HLN.out
  rw [hll] at hcv hK1
  rw [hcv]
  clear hcv
  have x2 : Ext w1 (w1.alloc (.cells C1 21)).drew := ((Ext.refl w1).alloc _).drew
  have hb2 : (w1.alloc (.cells C1 21)).drew.heap[w1.heap.size]? = some (.cells C1 21 (0, 0)) := heap_alloc_new w1 _
  go_upto_region 10 with fail
  obtain ⟨g, hg⟩ : ∃ g, w1.heap.size = g := ⟨_, rfl⟩
  rw [hg] at hb2 ⊢
  obtain ⟨w2, hw2⟩ : ∃ W : World, W = (w1.alloc (.cells C1 21)).drew := ⟨_, rfl⟩
  rw [← hw2] at x2 hb2 ⊢
  clear hw2 hg
  have X2 := qh (X1.out.trans x2)
  have HB2 := qh hb2
  have HC1 := qh hC1
  have HLL := qh hll
  have HK1 := qh hK1
  clear x2 hb2 hC1 hll hK1 p0
  go_upto_region 11 with fail
  have hmin : min (c : Int) ((L - a : Nat) : Int) = (c' : Int) := by have := HCC.out; omega
  rw [hmin]
  clear hmin e1 e2 e2n e3 e4
  obtain ⟨l, hle⟩ : ∃ l, runeList tx tx.size 0 = l := ⟨_, rfl⟩
  have hll := HLL.out
  rw [hle] at hll
  have HA : Hid (runesBytes (l.take a) ++ s ++ runesBytes (l.drop (a + c')) = replT tx a c' s) := qh (by unfold replT; rw [hle])
  have hcell : ∀ u : ExtOf w2, ∀ j z, l[j]? = some z → u.val.cell? ⟨g, j, none⟩ = some (.int .i32 z) := fun u j z hj => u.ext.cell (cellOf HB2.out (HC1.out j z (by rw [hle]; exact hj)))
  have v1 : ∀ u : ExtOf w2, (convert 115 9 (.slice (some ⟨g, 0, none⟩) a K1)).run Tryz.prog u.val = .ok (.string (runesBytes (l.take a))) u.val := fun u =>
    run_convert_runes u.val 115 9 21 ⟨g, 0, none⟩ a K1 l (by omega) Tryz.underlying115 Tryz.underlying21 Tryz.underlying9 (fun j hj => by
      rw [Addr.add_lit, Nat.zero_add]
      exact hcell u j _ (by rw [List.getD_eq_getElem?_getD, List.getElem?_eq_getElem hj]; rfl))
  have v2 : ∀ u : ExtOf w2, (convert 115 9 (.slice (if K1 = a + c' then some ⟨g, 0, none⟩ else some ⟨g, a + c', none⟩) (L - (a + c')) (K1 - (a + c')))).run Tryz.prog u.val = .ok (.string (runesBytes (l.drop (a + c')))) u.val := fun u => by
    by_cases hk : K1 = a + c'
    · rw [if_pos hk]
      have hk1 := HK1.out
      have hz : L - (a + c') = 0 := by omega
      have hd : l.drop (a + c') = [] := List.drop_eq_nil_of_le (by omega)
      rw [hz, hd]
      have h9 := run_convert_runes (P := Tryz.prog) u.val 115 9 21 ⟨g, 0, none⟩ 0 (K1 - (a + c')) [] (Nat.le_refl _) Tryz.underlying115 Tryz.underlying21 Tryz.underlying9 (fun j hj => by cases hj)
      exact h9
    · rw [if_neg hk]
      have h9 := run_convert_runes (P := Tryz.prog) u.val 115 9 21 ⟨g, a + c', none⟩ (L - (a + c')) (K1 - (a + c')) (l.drop (a + c')) (by rw [List.length_drop]; omega) Tryz.underlying115 Tryz.underlying21 Tryz.underlying9 (fun j hj => by
        rw [Addr.add_lit]
        exact hcell u (a + c' + j) _ (by rw [List.length_drop] at hj; rw [List.getD_eq_getElem?_getD, List.getElem?_drop, List.getElem?_eq_getElem (by omega)]; rfl))
      rw [List.take_of_length_le (by rw [List.length_drop]; omega)] at h9
      exact h9
  obtain ⟨A, hAe⟩ : ∃ A, runesBytes (l.take a) = A := ⟨_, rfl⟩
  obtain ⟨B, hBe⟩ : ∃ B, runesBytes (l.drop (a + c')) = B := ⟨_, rfl⟩
  have hAz : A.size ≤ 4 * L := by have h9 := runesBytes_size_le (l.take a); rw [hAe, List.length_take] at h9; omega
  have hBz : B.size ≤ 4 * L := by have h9 := runesBytes_size_le (l.drop (a + c')); rw [hBe, List.length_drop] at h9; omega
  rw [hAe, hBe] at HA
  simp only [hAe] at v1
  simp only [hBe] at v2
  have hsz := HS.out
  have z1 : A.size + s.size ≤ 9223372036854775807 := by omega
  have z2 : A.size + s.size + B.size ≤ 9223372036854775807 := by omega
  have z3 : (A ++ s).size + B.size ≤ 9223372036854775807 := by rw [ByteArray.size_append]; omega
  clear hAe hBe hAz hBz hsz
  have b0 : (0 : Int) ≤ (a : Int) := by omega
  have hk1 := HK1.out
  have b1 : (a : Int) ≤ (K1 : Int) := by omega
  have b2 : IntKind.i64.wrap ((a : Int) + (c' : Int)) = ((a + c' : Nat) : Int) := by rw [IntWalk.i64_in _ (by omega)]; push_cast; rfl
  have b3 : (0 : Int) ≤ ((a + c' : Nat) : Int) := by omega
  have b4 : ((a + c' : Nat) : Int) ≤ (L : Int) := by omega
  have b5 : (L : Int) ≤ (K1 : Int) := by omega
  have b6 : a ≤ K1 := by omega
  have b7 : a + c' ≤ L := hac
  have b8 : L ≤ K1 := hk1
  clear hle hcell hll
  refine wp_region_ext_mid 18 _ rfl (by kernel_rfl) (by kernel_rfl) ?_
  simp only [List.take_succ_cons, List.take_zero, List.drop_succ_cons, List.drop_zero]
  repeat (go_big_quiet_step (fail))
  refine wpQuiet_nil ?_
  rintro _ ⟨u, rfl⟩ K hK
  have HK := qh hK
  have hx := u.ext
  obtain ⟨w5, hw5⟩ : ∃ W, u.val = W := ⟨_, rfl⟩
  rw [hw5] at hx ⊢
  clear v1 v2 hw5 hK
  clear u
  have X5 := qh (X2.out.trans hx)
  clear hx
  have HRE := qh (lreplace_any (HH.out.ext X5.out) HL.out id (a : Int) (c' : Int) s (A ++ s ++ B) HS.out (er := er) (T' := T') (fun W hW => by rw [HA.out]; exact HD.out W (X5.out.trans hW)) (fun he => ⟨(HPP.out he).1, by unfold okI; omega, by unfold okI; omega, (HPP.out he).2⟩))
  go_simp
  go_at_call 78
  refine HRE.out.mono ?_
  rintro e w6 ⟨rfl, ha6⟩
  have HF := qh ha6
  clear ha6
  refine HK.out _ _ ?_
  clear HK K
  repeat (go_big_quiet_step (fail))
  refine wpQuiet_nil ?_
  rintro _ ⟨u, rfl⟩
  have HG : Hid (LAfter own lb tb hb w T' (movedIf er (repP id (a : Int) (c' : Int) (runeList s s.size 0).length) H) u.val) := qh (by
    obtain ⟨o9, p9, v9, b9, k1, k2⟩ := HF.out
    exact ⟨o9, p9, v9, b9, k1.ext u.ext, (((LStep.refl own lb hb w).ext X5.out).trans k2).ext u.ext⟩)
  go_wp2_with fail
  all_goals (go_ret; exact ⟨rfl, HG.out⟩)
end
def remP (T : Tr) (id p q : Int) : Int → Int → Int × Int := fun n a => if T.win n id then (p, q) else (n, remA n a p q)
section
variable {w : World} {own : Ow} {ptr : Nat → Nat} {lb tb : Nat} {T : Tr} {hv : Value} {hb : Option Nat} {H : List Hd}
theorem removed_both (n a p q : Int) (b : Bool) (w : World) (hn : okI n) (ha : okI a) (hp : okI p) (hq : okI q) :
    Calls Tryz.prog 58 #[pl n a, .int .i64 p, .int .i64 q, .bool b] w (RPlace (if b then p else n) (if b then q else remA n a p q) w) := by
  cases b with
  | true => exact removed_in n a p q w hn ha hp hq
  | false => exact removed_any n a p q w hn ha hp hq
theorem byRemove (h : LiveAt w own ptr lb tb T hv hb H) {d : Nat → Nat} (hw : WF T d) {b0 b1 b2 b3 : Nat} (p q id : Int) (o0 : okI p) (o1 : okI q)
    (h0 : w.cell? ⟨b0, 0, none⟩ = some (.int .i64 p)) (g0 : hb ≠ some b0) (h1 : w.cell? ⟨b1, 0, none⟩ = some (.int .i64 q)) (g1 : hb ≠ some b1)
    (h2 : w.heap[b2]? = some (.cells #[.pointer (some ⟨lb, 0, none⟩)] 25 (0, 0))) (g2 : hb ≠ some b2) (h3 : w.heap[b3]? = some (.cells #[.int .i64 id] 3 (0, 0))) (g3 : hb ≠ some b3) :
    ByIs w hb (.func (.func 57) #[] #[.pointer (some ⟨b0, 0, none⟩), .pointer (some ⟨b1, 0, none⟩), .pointer (some ⟨b2, 0, none⟩), .pointer (some ⟨b3, 0, none⟩)]) okP (remP T id p q) := by
  refine ⟨_, _, rfl, enters_of Tryz.func57 (by kernel_rfl) rfl, fun W n a hm hP => ?_⟩
  show Calls Tryz.prog 57 #[pl n a, .pointer (some ⟨b0, 0, none⟩), .pointer (some ⟨b1, 0, none⟩), .pointer (some ⟨b2, 0, none⟩), .pointer (some ⟨b3, 0, none⟩)] W _
  have htree : TreeAt W own ptr tb T := h.tree.keep fun b hb' => hm.rest b (h.ownd b hb') (fun e => hb' (h.nrow b e).1)
  have howned : Owned own W := fun b hb' => Nat.lt_of_lt_of_le (h.ownd b hb') hm.size
  have hbox := hm.block h.box (fun e => (h.nrow lb e).2.1 rfl)
  have xa := (Ext.refl W).alloc (.cells #[.int .i64 n, .int .i64 a] 43)
  have hba := heap_alloc_new W (.cells #[.int .i64 n, .int .i64 a] 43)
  obtain ⟨wa, hwa⟩ : ∃ V : World, V = W.alloc (.cells #[.int .i64 n, .int .i64 a] 43) := ⟨_, rfl⟩
  have hsz : wa.heap.size = W.heap.size + 1 := by rw [hwa]; simp
  rw [← hwa] at xa hba
  have xb := (Ext.refl wa).alloc (.cells #[.int .i64 0, .int .i64 0] 43)
  have hbb := heap_alloc_new wa (.cells #[.int .i64 0, .int .i64 0] 43)
  have hab := xb.block hba
  obtain ⟨wb, hwb⟩ : ∃ V : World, V = wa.alloc (.cells #[.int .i64 0, .int .i64 0] 43) := ⟨_, rfl⟩
  rw [← hwb] at xb hbb hab
  have x02 := xa.trans xb
  obtain ⟨ga, hga⟩ : ∃ g, W.heap.size = g := ⟨_, rfl⟩
  rw [hga] at hab
  have HWI := qh (fun u : ExtOf wb => inExt (u := u) (Within_any (⟨own, ptr, htree.keep ((x02.trans u.ext).keep howned), fun b hb' => Nat.lt_of_lt_of_le (howned b hb') (x02.trans u.ext).size⟩ : TAt u.val tb T) hw n id))
  obtain ⟨bb, hbbe⟩ : ∃ b, T.win n id = b := ⟨_, rfl⟩
  rw [hbbe] at HWI
  have HRM := qh (fun u : ExtOf wb => inExt (u := u) (removed_both n a p q bb u.val hP.1 hP.2 o0 o1))
  have HFV : Hid (remP T id p q n a = (if bb then p else n, if bb then q else remA n a p q)) := qh (by unfold remP; rw [hbbe]; cases bb <;> rfl)
  obtain ⟨n', hn'⟩ : ∃ z, (if bb then p else n) = z := ⟨_, rfl⟩
  obtain ⟨a', ha'⟩ : ∃ z, (if bb then q else remA n a p q) = z := ⟨_, rfl⟩
  rw [hn', ha'] at HRM HFV
  have r0 : ∀ u : ExtOf wb, u.val.cell? ⟨ga, 0, none⟩ = some (.int .i64 n) := fun u => u.ext.cell (cellOf hab rfl)
  have r1 : ∀ u : ExtOf wb, u.val.cell? ⟨ga, 1, none⟩ = some (.int .i64 a) := fun u => u.ext.cell (cellOf hab rfl)
  have r2 : ∀ u : ExtOf wb, u.val.cell? ⟨b0, 0, none⟩ = some (.int .i64 p) := fun u => (x02.trans u.ext).cell (hm.cell h0 g0)
  have r3 : ∀ u : ExtOf wb, u.val.cell? ⟨b1, 0, none⟩ = some (.int .i64 q) := fun u => (x02.trans u.ext).cell (hm.cell h1 g1)
  have r4 : ∀ u : ExtOf wb, u.val.cell? ⟨b2, 0, none⟩ = some (.pointer (some ⟨lb, 0, none⟩)) := fun u => (x02.trans u.ext).cell (cellOf (hm.block h2 g2) rfl)
  have r5 : ∀ u : ExtOf wb, u.val.cell? ⟨b3, 0, none⟩ = some (.int .i64 id) := fun u => (x02.trans u.ext).cell (cellOf (hm.block h3 g3) rfl)
  have r6 : ∀ u : ExtOf wb, u.val.cell? ⟨lb, 0, none⟩ = some (.pointer (some ⟨tb, 0, none⟩)) := fun u => (x02.trans u.ext).cell (cellOf hbox rfl)
  have XB := qh x02
  have HBB := qh hbb
  have HWA := qh hwa
  have HWB := qh hwb
  have HSZ := qh hsz
  have HGA := qh hga
  clear h hw h0 g0 h1 g1 h2 g2 h3 g3 hm hP htree howned hbox xa hba hwa hsz xb hbb hab hwb x02 hga hbbe hn' ha'
  go_enter Tryz.func57, Tryz.ntmps57
  go_upto_region 1 with fail
  rw [← HWA.out, ← HWB.out]
  obtain ⟨gb, hgb⟩ : ∃ g, wa.heap.size = g := ⟨_, rfl⟩
  have HGB := qh hgb
  have hg2 : ga + 1 = gb := by rw [← hgb, HSZ.out, HGA.out]
  have hg3 : W.heap.size + 1 = gb := by rw [← hgb, HSZ.out]
  rw [HGA.out]
  first | rw [hgb] | rw [hg2]
  rw [hgb] at HBB
  clear hgb hg2 hg3
  refine wp_region_ext_tail 12 (by kernel_rfl) (by kernel_rfl) ?_
  simp only [List.take_succ_cons, List.take_zero, List.drop_succ_cons, List.drop_zero]
  repeat (go_big_quiet_step ((first | (go_at_call 59; exact HWI.out _) | (go_at_call 58; exact HRM.out _))))
  refine wpQuiet_nil ?_
  rintro _ ⟨u, rfl⟩
  have x2 := u.ext
  obtain ⟨w2, hw2⟩ : ∃ V, u.val = V := ⟨_, rfl⟩
  rw [hw2] at x2 ⊢
  clear r0 r1 r2 r3 r4 r5 r6 hw2
  clear u
  have hb2 := x2.block HBB.out
  have k0 := cellOf hb2 (i := 0) rfl
  have k1 := cellOf hb2 (i := 1) rfl
  have f0 := freeOf hb2 0
  have f1 := freeOf hb2 1
  have B3 : ((w2.setCell ⟨gb, 0, none⟩ (.int .i64 n')).setCell ⟨gb, 1, none⟩ (.int .i64 a')).heap[gb]? = some (.cells #[.int .i64 n', .int .i64 a'] 43 (0, 0)) := heap_setCell_same (i := 1) (heap_setCell_same (i := 0) hb2 (.int .i64 n')) (.int .i64 a')
  have HLV := qh (run_loadVar_row (P := Tryz.prog) _ gb 43 43 _ (0, 0) _ B3 Tryz.underlying43 rfl (by kernel_rfl))
  have hgt : W.heap.size ≤ gb := by have h1 := HGB.out; have h2 := HSZ.out; omega
  have XF := qh (((XB.out.trans x2).setCell (p := ⟨gb, 0, none⟩) hgt (.int .i64 n')).setCell (p := ⟨gb, 1, none⟩) hgt (.int .i64 a'))
  clear x2 hb2 B3 hgt
  go_wp2_with fail
  have hlv := HLV.out
  refine bodyPost_ret (v := pl n' a') (by simp [results, Tryz.results57, asAddr, hlv]) rfl ?_
  exact ⟨by rw [HFV.out], XF.out⟩
end
theorem newCell1 (w : World) (v : Value) (t : TypeId) : (w.alloc (.cells #[v] t)).cell? ⟨w.heap.size, 0, none⟩ = some v := cellOf (heap_alloc_new w (.cells #[v] t)) rfl
theorem newCell2 (w : World) (v : Value) (t : TypeId) (o : Obj) : ((w.alloc (.cells #[v] t)).alloc o).cell? ⟨w.heap.size, 0, none⟩ = some v := ((Ext.refl _).alloc o).cell (newCell1 w v t)
theorem newCell3 (w : World) (v : Value) (t : TypeId) (o : Obj) : ((w.alloc o).alloc (.cells #[v] t)).cell? ⟨w.heap.size + 1, 0, none⟩ = some v := by
  have h := newCell1 (w.alloc o) v t
  rw [show (w.alloc o).heap.size = w.heap.size + 1 by simp] at h
  exact h
theorem newFree1 (w : World) (v : Value) (t : TypeId) : (w.alloc (.cells #[v] t)).frozen? ⟨w.heap.size, 0, none⟩ = false := freeOf (heap_alloc_new w (.cells #[v] t)) 0
theorem newFree2 (w : World) (v : Value) (t : TypeId) (o : Obj) : ((w.alloc (.cells #[v] t)).alloc o).frozen? ⟨w.heap.size, 0, none⟩ = false := ((Ext.refl _).alloc o).free (cell_lt (newCell1 w v t)) (newFree1 w v t)
theorem newFree3 (w : World) (v : Value) (t : TypeId) (o : Obj) : ((w.alloc o).alloc (.cells #[v] t)).frozen? ⟨w.heap.size + 1, 0, none⟩ = false := by
  have h := newFree1 (w.alloc o) v t
  rw [show (w.alloc o).heap.size = w.heap.size + 1 by simp] at h
  exact h
section
variable {w : World} {own : Ow} {ptr : Nat → Nat} {lb tb : Nat} {T : Tr} {hv : Value} {hb : Option Nat} {H : List Hd}
theorem lRemove_any (h : LiveAt w own ptr lb tb T hv hb H) (hl : H.length ≤ 100000) (id p q : Int) {er : Int} {T' : Tr} {d : Nat → Nat} (hw : WF T' d)
    (hp : ∀ W, Ext w W → Calls Tryz.prog 53 #[.pointer (some ⟨tb, 0, none⟩), .int .i64 id] W (RSame (.int .i64 p) W))
    (hq : ∀ W, Ext w W → Calls Tryz.prog 54 #[.pointer (some ⟨tb, 0, none⟩), .int .i64 id] W (RVal (.int .i64 q) W))
    (hd : ∀ W, Ext w W → Calls Tryz.prog 55 #[.pointer (some ⟨tb, 0, none⟩), .int .i64 id] W (ErrAfter own W tb er T'))
    (hP : er = 0 → okI p ∧ okI q ∧ okH H) :
    Calls Tryz.prog 17 #[.pointer (some ⟨lb, 0, none⟩), .int .i64 id] w (LErr own lb tb hb w er T' (movedIf er (remP T' id p q) H)) := by
  have xa := (Ext.refl w).alloc (.cells #[.pointer (some ⟨lb, 0, none⟩)] 25)
  have ha := heap_alloc_new w (.cells #[.pointer (some ⟨lb, 0, none⟩)] 25)
  obtain ⟨wa, hwa⟩ : ∃ W : World, W = w.alloc (.cells #[.pointer (some ⟨lb, 0, none⟩)] 25) := ⟨_, rfl⟩
  have sa : wa.heap.size = w.heap.size + 1 := by rw [hwa]; simp
  rw [← hwa] at xa ha
  have xb := (Ext.refl wa).alloc (.cells #[.int .i64 id] 3)
  have hbq := heap_alloc_new wa (.cells #[.int .i64 id] 3)
  obtain ⟨wb, hwb⟩ : ∃ W : World, W = wa.alloc (.cells #[.int .i64 id] 3) := ⟨_, rfl⟩
  rw [← hwb] at xb hbq
  have HB2 := qh (xb.block ha)
  have HB3 := qh hbq
  obtain ⟨b2, hb2⟩ : ∃ b, w.heap.size = b := ⟨_, rfl⟩
  obtain ⟨b3, hb3⟩ : ∃ b, wa.heap.size = b := ⟨_, rfl⟩
  have hq2 : b2 + 1 = b3 := by omega
  rw [hb2] at HB2
  rw [hb3] at HB3
  have XB := qh (xa.trans xb)
  have HH := qh h
  have HD := qh hd
  have HPP := qh hP
  have HL := qh hl
  have HPA := qh (fun (W : World) (x : Ext wb W) => hp W ((xa.trans xb).trans x))
  have HIX := qh (fun (W : World) (x : Ext wb W) => hq W ((xa.trans xb).trans x))
  have HW := qh hw
  have HWA := qh hwa
  have HWB := qh hwb
  have HB2E := qh hb2
  have HB3E := qh (And.intro hb3 hq2)
  have N2 := qh (h.new_own (b := b2) (by omega))
  have N3 := qh (h.new_own (b := b3) (by omega))
  have hmf : ∀ (fn : Fn) (first cap : Array Value) (w : World), (Instr.makeFunc fn first cap).run Tryz.prog w = .ok (.func fn first cap) w := fun _ _ _ _ => rfl
  have HNN := qh (none_some (h.ext (xa.trans xb)).ptr_)
  have c2 := cellOf HB2.out (i := 0) rfl
  have c3 := cellOf HB3.out (i := 0) rfl
  clear h hd hP hl hp hq hw xa ha hwa sa xb hbq hwb hb2 hb3 hq2
  go_enter Tryz.func17, Tryz.ntmps17
  go_upto_region 1 with fail
  rw [← HWA.out, ← HWB.out, HB2E.out]
  first | rw [HB3E.out.1] | rw [HB3E.out.2]
  go_upto_region 3 with (go_at_call 47; refine HNN.out.mono ?_; rintro e w' ⟨rfl, rfl⟩)
  have m0 := (HH.out.ext XB.out).ptr_
  have m2 := c2
  have m3 := c3
  clear c2 c3
  have n0 := cell_lt m0
  have n2 := cell_lt m2
  have n3 := cell_lt m3
  have q0 : lb ≠ wb.heap.size := by omega
  have q0' : lb ≠ wb.heap.size + 1 := by omega
  have q2 : b2 ≠ wb.heap.size := by omega
  have q2' : b2 ≠ wb.heap.size + 1 := by omega
  have q3 : b3 ≠ wb.heap.size := by omega
  have q3' : b3 ≠ wb.heap.size + 1 := by omega
  go_cut [5, 6] (fun x y wx => ∃ bx bY, x = .pointer (some ⟨bx, 0, none⟩) ∧ y = .pointer (some ⟨bY, 0, none⟩) ∧ wb.heap.size ≤ bx ∧ wb.heap.size ≤ bY ∧ Ext wb wx ∧ wx.cell? ⟨bx, 0, none⟩ = some (.int .i64 p) ∧ wx.cell? ⟨bY, 0, none⟩ = some (.int .i64 q))
  case first =>
    go_region_held3 (fun w' => w'.cell? ⟨lb, 0, none⟩ = some (.pointer (some ⟨tb, 0, none⟩)) ∧ w'.cell? ⟨b2, 0, none⟩ = some (.pointer (some ⟨lb, 0, none⟩)) ∧ w'.cell? ⟨b3, 0, none⟩ = some (.int .i64 id))
      (first | exact ⟨m0, m2, m3⟩ | exact ⟨hyI.cell m0, hyI.cell m2, hyI.cell m3⟩ | (refine ⟨Ext.cell ?_ m0, Ext.cell ?_ m2, Ext.cell ?_ m3⟩ <;> (repeat (first | exact hyI | exact Ext.refl _ | refine Ext.drew ?_ | refine Ext.alloc ?_ _ | refine Ext.setCell ?_ (by first | exact Nat.le_refl _ | exact Nat.le_succ _ | exact hyI.size | (have h9 := hyI.size; simp; omega) | (simp; done)) _))) | go_keep)
      (first
      | (go_at_call 53; refine (HPA.out _ (by first | exact hyI | exact Ext.refl _ | exact (Ext.refl _).drew | exact (Ext.refl _).drew.alloc _ | exact ((Ext.refl _).drew.alloc _).alloc _ | exact ((Ext.refl _).alloc _).drew | exact (((Ext.refl _).alloc _).alloc _).drew)).mono ?_; rintro e w5 ⟨rfl, rfl⟩)
      | (go_at_call 54; refine (HIX.out _ (by first | exact Ext.refl _ | exact (Ext.refl _).drew | exact (Ext.refl _).drew.alloc _ | exact ((Ext.refl _).drew.alloc _).alloc _ | exact ((Ext.refl _).alloc _).drew | exact (((Ext.refl _).alloc _).alloc _).drew)).mono ?_; rintro e w6 ⟨rfl, hxI⟩; have hyI : Ext wb w6 := (by refine Ext.trans ?_ hxI; first | exact (Ext.refl _).drew | exact ((Ext.refl _).alloc _).drew | exact (((Ext.refl _).alloc _).alloc _).drew | exact (Ext.refl _).drew.alloc _ | exact ((Ext.refl _).drew.alloc _).alloc _ | exact Ext.refl _); have hxI := Ext.undrew hxI; first | (have z0 : w6.cell? ⟨wb.heap.size, 0, none⟩ = some (.int .i64 0) := hxI.cell (newCell2 _ _ _ _); have z1 : w6.cell? ⟨wb.heap.size + 1, 0, none⟩ = some (.int .i64 0) := hxI.cell (newCell3 _ _ _ _); have f0 : w6.frozen? ⟨wb.heap.size, 0, none⟩ = false := hxI.free (cell_lt (newCell2 _ _ _ _)) (newFree2 _ _ _ _); have f1 : w6.frozen? ⟨wb.heap.size + 1, 0, none⟩ = false := hxI.free (cell_lt (newCell3 _ _ _ _)) (newFree3 _ _ _ _); have l9 := cell_lt z0; have n9 := Nat.ne_of_lt (cell_lt z0); have n8 := Ne.symm n9; have l7 := cell_lt z1; have n7 := Nat.ne_of_lt (cell_lt z1); have n6 := Ne.symm n7) | (have z0 : w6.cell? ⟨wb.heap.size, 0, none⟩ = some (.int .i64 0) := hxI.cell (newCell1 _ _ _); have f0 : w6.frozen? ⟨wb.heap.size, 0, none⟩ = false := hxI.free (cell_lt (newCell1 _ _ _)) (newFree1 _ _ _); have l9 := cell_lt z0; have n9 := Nat.ne_of_lt (cell_lt z0); have n8 := Ne.symm n9) | skip))
    all_goals go_wp2_with fail
    all_goals go_meet
    all_goals refine ⟨_, _, rfl, rfl, ?_, ?_, ?_, ?_, ?_⟩
    all_goals first
      | (have h9 := hyI.size; omega)
      | (simp [go_sem]; done)
      | (simp [go_sem, *]; done)
      | (simp [go_sem, *, World.cell?_setCell_far]; done)
      | (repeat (first | exact hyI | exact Ext.refl _ | refine Ext.drew ?_ | refine Ext.alloc ?_ _ | refine Ext.setCell ?_ (by first | exact Nat.le_refl _ | exact Nat.le_succ _ | exact hyI.size | (have h9 := hyI.size; simp; omega) | (simp; done)) _))
  case rest =>
    obtain ⟨bx, bY, rfl, rfl, hbx, hbY, xc, k1, k2⟩ := hcut
    have hwz := XB.out.size
    have NX := qh (HH.out.new_own (b := bx) (by omega))
    have NY := qh (HH.out.new_own (b := bY) (by omega))
    have XC := qh (XB.out.trans xc)
    have K1 := qh k1
    have K2 := qh k2
    have B2 := qh (xc.block HB2.out)
    have B3 := qh (xc.block HB3.out)
    have r0 : ∀ u : ExtOf wc, u.val.cell? ⟨lb, 0, none⟩ = some (.pointer (some ⟨tb, 0, none⟩)) := fun u => (xc.trans u.ext).cell m0
    have r1 : ∀ u : ExtOf wc, u.val.cell? ⟨b2, 0, none⟩ = some (.pointer (some ⟨lb, 0, none⟩)) := fun u => (xc.trans u.ext).cell m2
    have r2 : ∀ u : ExtOf wc, u.val.cell? ⟨b3, 0, none⟩ = some (.int .i64 id) := fun u => (xc.trans u.ext).cell m3
    clear m0 m2 m3 n0 n2 n3 q0 q0' q2 q2' q3 q3' xc k1 k2 hbx hbY hwz
    go_upto_region 4 with fail
    refine wp_region_ext_mid 5 _ rfl (by kernel_rfl) (by kernel_rfl) ?_
    simp only [List.take_succ_cons, List.take_zero, List.drop_succ_cons, List.drop_zero]
    repeat (go_big_quiet_step (fail))
    refine wpQuiet_nil ?_
    rintro _ ⟨u, rfl⟩ K hK
    have HK := qh hK
    have hx := u.ext
    obtain ⟨w5, hw5⟩ : ∃ W, u.val = W := ⟨_, rfl⟩
    rw [hw5] at hx ⊢
    clear r0 r1 r2 hw5 hK
    clear u
    have X5 := qh (XC.out.trans hx)
    have K1 := qh (hx.cell K1.out)
    have K2 := qh (hx.cell K2.out)
    have B2 := qh (hx.block B2.out)
    have B3 := qh (hx.block B3.out)
    clear hx
    go_simp
    go_at_call 55
    refine (HD.out _ X5.out).mono ?_
    rintro e w6 ⟨rfl, ha⟩
    obtain ⟨own', ptr', hT6, hS6, hst⟩ := (HH.out.ext X5.out).after ha
    have K1 := qh (hst.mv.cell K1.out (fun hn => hn NX.out.1))
    have K2 := qh (hst.mv.cell K2.out (fun hn => hn NY.out.1))
    have B2 := qh (hst.mv.block B2.out (fun hn => hn N2.out.1))
    have B3 := qh (hst.mv.block B3.out (fun hn => hn N3.out.1))
    have HT6 := qh hT6
    have HS6 := qh (((LStep.refl own lb hb w).ext X5.out).trans hS6)
    clear ha hT6 hS6 hst
    refine HK.out _ _ ?_
    clear HK K
    repeat (go_big_quiet_step (fail))
    refine wpQuiet_nil ?_
    rintro _ ⟨u, rfl⟩
    obtain ⟨w7, hw7⟩ : ∃ W, u.val = W := ⟨_, rfl⟩
    have hx := u.ext
    rw [hw7] at hx ⊢
    have HT6 := qh (HT6.out.ext hx)
    have HS6 := qh (HS6.out.ext hx)
    have K1 := qh (hx.cell K1.out)
    have K2 := qh (hx.cell K2.out)
    have B2 := qh (hx.block B2.out)
    have B3 := qh (hx.block B3.out)
    clear hx hw7
    clear u
    by_cases her : er = 0
    · subst her
      obtain ⟨op, oq, oh⟩ := HPP.out rfl
      have HMV := qh (lMove_any HT6.out HL.out oh (byRemove HT6.out HW.out p q id op oq K1.out NX.out.2.2 K2.out NY.out.2.2 B2.out N2.out.2.2 B3.out N3.out.2.2))
      have c2 := cellOf B2.out (i := 0) rfl
      clear op oq oh
      go_wp2_with (go_at_call 56; refine HMV.out.mono ?_)
      rintro e w8 ⟨rfl, hT8, hm8⟩
      have HF : Hid (LAfter own lb tb hb w T' (H.map (moved (remP T' id p q))) w8) := qh ⟨own', ptr', _, _, hT8, HS6.out.trans (LStep.move hm8)⟩
      clear hT8 hm8 c2
      go_wp2_with fail
      go_ret
      exact ⟨rfl, by unfold movedIf; rw [if_pos rfl]; exact HF.out⟩
    · have e0 : (er == 0) = false := beq_eq_false_iff_ne.2 her
      have HE := qh her
      clear her
      go_wp2_with fail
      go_ret
      exact ⟨rfl, by unfold movedIf; rw [if_neg HE.out]; exact ⟨own', ptr', _, _, HT6.out, HS6.out⟩⟩
end
section
variable {w : World} {own : Ow} {ptr : Nat → Nat} {lb tb : Nat} {T : Tr} {hv : Value} {hb : Option Nat} {H : List Hd}
theorem lInsert_any (h : LiveAt w own ptr lb tb T hv hb H) (hl : H.length ≤ 100000) (p q k : Int) {er : Int} {T' : Tr}
    (hd : ∀ W, Ext w W → Calls Tryz.prog 72 #[.pointer (some ⟨tb, 0, none⟩), .int .i64 p, .int .i64 q, .int .i64 k] W (ErrAfter own W tb er T'))
    (hP : er = 0 → okI p ∧ okI q ∧ okH H) :
    Calls Tryz.prog 25 #[.pointer (some ⟨lb, 0, none⟩), .int .i64 p, .int .i64 q, .int .i64 k] w (LErr own lb tb hb w er T' (movedIf er (insP p q 1) H)) := by
  have xa := (Ext.refl w).alloc (.cells #[.int .i64 p] 3)
  have ha := heap_alloc_new w (.cells #[.int .i64 p] 3)
  obtain ⟨wa, hwa⟩ : ∃ W : World, W = w.alloc (.cells #[.int .i64 p] 3) := ⟨_, rfl⟩
  have sa : wa.heap.size = w.heap.size + 1 := by rw [hwa]; simp
  rw [← hwa] at xa ha
  have xb := (Ext.refl wa).alloc (.cells #[.int .i64 q] 3)
  have hbq := heap_alloc_new wa (.cells #[.int .i64 q] 3)
  obtain ⟨wb, hwb⟩ : ∃ W : World, W = wa.alloc (.cells #[.int .i64 q] 3) := ⟨_, rfl⟩
  have sb : wb.heap.size = wa.heap.size + 1 := by rw [hwb]; simp
  rw [← hwb] at xb hbq
  have HP := qh (xb.block ha)
  have HQ := qh hbq
  obtain ⟨bp, hbp⟩ : ∃ b, w.heap.size = b := ⟨_, rfl⟩
  obtain ⟨bq, hbq2⟩ : ∃ b, wa.heap.size = b := ⟨_, rfl⟩
  have hq2 : bp + 1 = bq := by omega
  rw [hbp] at HP
  rw [hbq2] at HQ
  have XC := qh (xa.trans xb)
  have HH := qh h
  have HD := qh hd
  have HPP := qh hP
  have HL := qh hl
  have HWA := qh hwa
  have HWB := qh hwb
  have HBP := qh hbp
  have HBQ := qh (And.intro hbq2 hq2)
  have NP := qh (h.new_own (b := bp) (by omega))
  have NQ := qh (h.new_own (b := bq) (by omega))
  have hmf : ∀ (fn : Fn) (first cap : Array Value) (w : World), (Instr.makeFunc fn first cap).run Tryz.prog w = .ok (.func fn first cap) w := fun _ _ _ _ => rfl
  have HNN := qh (fun W (x : Ext w W) => none_some (h.ext x).ptr_)
  clear h hd hP hl xa ha hwa sa xb hbq hwb sb hbp hbq2 hq2
  go_enter Tryz.func25, Tryz.ntmps25
  go_upto_region 1 with fail
  rw [← HWA.out, ← HWB.out, HBP.out]
  first | rw [HBQ.out.1] | rw [HBQ.out.2]
  go_upto_region 3 with (go_at_call 47; refine (HNN.out _ XC.out).mono ?_; rintro e w' ⟨rfl, rfl⟩)
  have r0 : ∀ u : ExtOf wb, u.val.cell? ⟨lb, 0, none⟩ = some (.pointer (some ⟨tb, 0, none⟩)) := fun u => u.ext.cell (HH.out.ext XC.out).ptr_
  have r1 : ∀ u : ExtOf wb, u.val.cell? ⟨bp, 0, none⟩ = some (.int .i64 p) := fun u => u.ext.cell (cellOf HP.out rfl)
  have r2 : ∀ u : ExtOf wb, u.val.cell? ⟨bq, 0, none⟩ = some (.int .i64 q) := fun u => u.ext.cell (cellOf HQ.out rfl)
  refine wp_region_ext_mid 7 _ rfl (by kernel_rfl) (by kernel_rfl) ?_
  simp only [List.take_succ_cons, List.take_zero, List.drop_succ_cons, List.drop_zero]
  repeat (go_big_quiet_step (fail))
  refine wpQuiet_nil ?_
  rintro _ ⟨u, rfl⟩ K hK
  have HK := qh hK
  have hx := u.ext
  obtain ⟨w5, hw5⟩ : ∃ W, u.val = W := ⟨_, rfl⟩
  rw [hw5] at hx ⊢
  clear r0 r1 r2 hw5 hK
  clear u
  have X5 := qh (XC.out.trans hx)
  have HP5 := qh (hx.block HP.out)
  have HQ5 := qh (hx.block HQ.out)
  clear hx
  go_simp
  go_at_call 72
  refine (HD.out _ X5.out).mono ?_
  rintro e w6 ⟨rfl, ha⟩
  obtain ⟨own', ptr', hT6, hS6, hst⟩ := (HH.out.ext X5.out).after ha
  have HP6 := qh (hst.mv.block HP5.out (fun hn => hn NP.out.1))
  have HQ6 := qh (hst.mv.block HQ5.out (fun hn => hn NQ.out.1))
  have HT6 := qh hT6
  have HS6 := qh (((LStep.refl own lb hb w).ext X5.out).trans hS6)
  clear ha hT6 hS6 hst
  refine HK.out _ _ ?_
  clear HK K
  repeat (go_big_quiet_step (fail))
  refine wpQuiet_nil ?_
  rintro _ ⟨u, rfl⟩
  have HT6 := qh (HT6.out.ext u.ext)
  have HS6 := qh (HS6.out.ext u.ext)
  have HP6 := qh (u.ext.block HP6.out)
  have HQ6 := qh (u.ext.block HQ6.out)
  by_cases her : er = 0
  · subst her
    obtain ⟨op, oq, oh⟩ := HPP.out rfl
    have HMV := qh (lMove_any HT6.out HL.out oh (byInsert p q op oq HP6.out NP.out.2.2 HQ6.out NQ.out.2.2))
    clear op oq oh
    go_wp2_with (go_at_call 56; refine HMV.out.mono ?_)
    rintro e w7 ⟨rfl, hT7, hm7⟩
    have HF : Hid (LAfter own lb tb hb w T' (H.map (moved (insP p q 1))) w7) := qh ⟨own', ptr', _, _, hT7, HS6.out.trans (LStep.move hm7)⟩
    clear hT7 hm7
    go_wp2_with fail
    go_ret
    exact ⟨rfl, by unfold movedIf; rw [if_pos rfl]; exact HF.out⟩
  · have e0 : (er == 0) = false := beq_eq_false_iff_ne.2 her
    have HE := qh her
    clear her
    go_wp2_with fail
    go_ret
    exact ⟨rfl, by unfold movedIf; rw [if_neg HE.out]; exact ⟨own', ptr', _, _, HT6.out, HS6.out⟩⟩
def heldAt (H : List Hd) (k : Int) : Option Hd := if k < 0 then none else match H[k.toNat]? with | some x => if x.off = 0 then some x else none | none => none
theorem heldAt_some {H : List Hd} {k : Int} {x : Hd} (h : heldAt H k = some x) : ∃ i : Nat, k = (i : Int) ∧ H[i]? = some x ∧ x.off = 0 := by
  unfold heldAt at h
  split at h
  · cases h
  · split at h
    · rename_i y hy
      split at h
      · cases h; exact ⟨k.toNat, by omega, hy, by assumption⟩
      · cases h
    · cases h
theorem lIs_no (h : LiveAt w own ptr lb tb T hv hb H) {k : Int} (hn : heldAt H k = none) (hl : H.length ≤ 100000) : Calls Tryz.prog 48 #[.pointer (some ⟨lb, 0, none⟩), .int .i64 k] w (RBool false w) := by
  have HN := qh (none_some h.ptr_)
  have p1 := h.row_
  have p0 := h.ptr_
  obtain ⟨a, cap, rfl, hc, hg⟩ := h.at
  have HG := qh hg
  obtain ⟨n, hnl⟩ : ∃ n, H.length = n := ⟨_, rfl⟩
  rw [hnl] at p1 hl
  have HNL := qh hnl
  have HNO := qh hn
  clear hg hc hn hnl
  by_cases h0 : 0 ≤ k
  · obtain ⟨i, rfl⟩ := Int.eq_ofNat_of_zero_le h0
    have e0 : decide ((0 : Int) ≤ (i : Int)) = true := decide_eq_true (by omega)
    by_cases h1 : i < n
    · obtain ⟨x, hx⟩ : ∃ x, H[i]? = some x := ⟨_, List.getElem?_eq_getElem (by rw [HNL.out]; exact h1)⟩
      have ho : x.off ≠ 0 := by
        intro e
        have h9 := HNO.out
        unfold heldAt at h9
        rw [if_neg (by omega), show (i : Int).toNat = i by omega, hx] at h9
        simp [e] at h9
      obtain ⟨g, cur, rfl, hgb, hgr, htk, _⟩ := HG.out (by rw [HNL.out]; omega)
      have q2 := hold_cell (f := 2) hgr htk hx (v := .int .i64 x.off) rfl
      have e3 : (x.off == 0) = false := beq_eq_false_iff_ne.2 ho
      have e1 : decide ((i : Int) < (n : Int)) = true := decide_eq_true (by omega)
      have e1n : decide (i < n) = true := decide_eq_true h1
      have i0 : (0 : Int) ≤ (i : Int) := by omega
      have i1 : (i : Int) < (n : Int) := by omega
      have itn : (i : Int).toNat = i := by omega
      clear hgb hgr htk hx ho h0
      go_enter Tryz.func48, Tryz.ntmps48
      go_wp2_with (go_at_call 47; refine HN.out.mono ?_; rintro e w' ⟨rfl, rfl⟩)
      go_ret
      exact ⟨rfl, Ext.refl _⟩
    · have e1 : decide ((i : Int) < (n : Int)) = false := decide_eq_false (by omega)
      have e1n : decide (i < n) = false := decide_eq_false h1
      clear h0
      go_enter Tryz.func48, Tryz.ntmps48
      go_wp2_with (go_at_call 47; refine HN.out.mono ?_; rintro e w' ⟨rfl, rfl⟩)
      go_ret
      exact ⟨rfl, Ext.refl _⟩
  · have e0 : decide ((0 : Int) ≤ k) = false := decide_eq_false h0
    clear h0
    go_enter Tryz.func48, Tryz.ntmps48
    go_wp2_with (go_at_call 47; refine HN.out.mono ?_; rintro e w' ⟨rfl, rfl⟩)
    go_ret
    exact ⟨rfl, Ext.refl _⟩
theorem lIs_any (h : LiveAt w own ptr lb tb T hv hb H) (k : Int) (hl : H.length ≤ 100000) : Calls Tryz.prog 48 #[.pointer (some ⟨lb, 0, none⟩), .int .i64 k] w (RBool (heldAt H k).isSome w) := by
  cases hh : heldAt H k with
  | none => exact lIs_no h hh hl
  | some x =>
    obtain ⟨i, rfl, hx, ho⟩ := heldAt_some hh
    exact lIs_yes h hx ho hl
end
section
variable {w : World} {own : Ow} {ptr : Nat → Nat} {lb tb : Nat} {T : Tr} {hv : Value} {hb : Option Nat} {H : List Hd}
theorem lHeld_no (h : LiveAt w own ptr lb tb T hv hb H) {k : Int} (hn : heldAt H k = none) (hl : H.length ≤ 100000) : Calls Tryz.prog 12 #[.pointer (some ⟨lb, 0, none⟩), .int .i64 k] w (RTwo (pl 0 0) (.bool false) w) := by
  have xa := (Ext.refl w).alloc (.cells #[.int .i64 0, .int .i64 0] 43)
  have hba := heap_alloc_new w (.cells #[.int .i64 0, .int .i64 0] 43)
  have HI := qh (lIs_no (h.ext xa) hn hl)
  obtain ⟨wa, hwa⟩ : ∃ W : World, W = w.alloc (.cells #[.int .i64 0, .int .i64 0] 43) := ⟨_, rfl⟩
  rw [← hwa] at xa hba HI
  have HWA := qh hwa
  have XA := qh xa
  have HBA := qh hba
  clear h hn hl hwa xa hba
  go_enter Tryz.func12, Tryz.ntmps12
  go_upto_region 1 with fail
  rw [← HWA.out]
  go_wp2_with (go_at_call 48; refine HI.out.mono ?_)
  rintro e w2 ⟨rfl, x2⟩
  have hb2 := x2.block HBA.out
  have c0 := cellOf hb2 (i := 0) rfl
  have c1 := cellOf hb2 (i := 1) rfl
  have f0 := freeOf hb2 0
  have f1 := freeOf hb2 1
  have XF := qh (((XA.out.trans x2).setCell (p := ⟨w.heap.size, 0, none⟩) (Nat.le_refl _) (.int .i64 0)).setCell (p := ⟨w.heap.size, 1, none⟩) (Nat.le_refl _) (.int .i64 0))
  have B3 : ((w2.setCell ⟨w.heap.size, 0, none⟩ (.int .i64 0)).setCell ⟨w.heap.size, 1, none⟩ (.int .i64 0)).heap[w.heap.size]? = some (.cells #[.int .i64 0, .int .i64 0] 43 (0, 0)) := heap_setCell_same (i := 1) (heap_setCell_same (i := 0) hb2 (.int .i64 0)) (.int .i64 0)
  have HLV := qh (run_loadVar_row (P := Tryz.prog) _ w.heap.size 43 43 _ (0, 0) _ B3 Tryz.underlying43 rfl (by kernel_rfl))
  clear x2 hb2 B3
  go_wp2_with fail
  have hlv := HLV.out
  refine bodyPost_ret (v := .tuple #[pl 0 0, .bool false]) (by simp [results, Tryz.results12, asAddr, hlv]) rfl ?_
  exact ⟨rfl, XF.out⟩
def heldV (H : List Hd) (k : Int) : Value := match heldAt H k with | some x => pl x.node x.at' | none => pl 0 0
theorem lHeld_any (h : LiveAt w own ptr lb tb T hv hb H) (k : Int) (hl : H.length ≤ 100000) : Calls Tryz.prog 12 #[.pointer (some ⟨lb, 0, none⟩), .int .i64 k] w (RTwo (heldV H k) (.bool (heldAt H k).isSome) w) := by
  unfold heldV
  cases hh : heldAt H k with
  | none => exact lHeld_no h hh hl
  | some x =>
    obtain ⟨i, rfl, hx, ho⟩ := heldAt_some hh
    exact lHeld_ok h hx ho hl
def freed (H : List Hd) (k : Int) : List Hd := if (heldAt H k).isSome then H.set k.toNat ⟨0, 0, 1⟩ else H
def freeErr (H : List Hd) (k : Int) : Int := if (heldAt H k).isSome then 0 else 2
theorem lFree_any (h : LiveAt w own ptr lb tb T hv hb H) (k : Int) (hl : H.length ≤ 100000) : Calls Tryz.prog 16 #[.pointer (some ⟨lb, 0, none⟩), .int .i64 k] w (LErr own lb tb hb w (freeErr H k) T (freed H k)) := by
  have HN := qh (none_some h.ptr_)
  have HI := qh (lIs_any h k hl)
  unfold freeErr freed
  cases hh : heldAt H k with
  | none =>
    rw [hh] at HI
    have HF : Hid (LAfter own lb tb hb w T H w) := qh (LAfter.same h (Ext.refl w))
    have HF2 := qh h
    clear hh h hl
    go_enter Tryz.func16, Tryz.ntmps16
    go_wp2_with (go_at_call 47; refine HN.out.mono ?_; rintro e w' ⟨rfl, rfl⟩)
    go_wp2_with (go_at_call 48; refine HI.out.mono ?_)
    rintro e w2 ⟨rfl, x2⟩
    have X2 := qh x2
    clear x2
    go_wp2_with fail
    go_ret
    exact ⟨rfl, LAfter.same HF2.out X2.out⟩
  | some x =>
    rw [hh] at HI
    obtain ⟨i, rfl, hx, ho⟩ := heldAt_some hh
    have hi := (List.getElem?_eq_some_iff.1 hx).1
    have HH := qh h
    have p1 := h.row_
    obtain ⟨a, cap, rfl, hc, hg⟩ := h.at
    obtain ⟨g, cur, rfl, hbg, hgr, htk, -⟩ := hg (by omega)
    have k0 := hold_cell (f := 0) hgr htk hx (v := .int .i64 x.node) rfl
    have k1 := hold_cell (f := 1) hgr htk hx (v := .int .i64 x.at') rfl
    have k2 := hold_cell (f := 2) hgr htk hx (v := .int .i64 x.off) rfl
    rw [Nat.add_zero] at k0
    obtain ⟨n, hn⟩ : ∃ n, H.length = n := ⟨_, rfl⟩
    rw [hn] at p1 hl hi
    have HX := qh hx
    have HGR := qh hgr
    have HBG := qh hbg
    have HHN := qh hn
    have i0 : (0 : Int) ≤ (i : Int) := by omega
    have i1 : (i : Int) < (n : Int) := by omega
    have itn : (i : Int).toNat = i := by omega
    have P1 := qh p1
    have KK := qh (And.intro k0 (And.intro k1 k2))
    clear hh h hc hg hbg hgr htk hx ho hn p1 k0 k1 k2
    go_enter Tryz.func16, Tryz.ntmps16
    go_wp2_with (go_at_call 47; refine HN.out.mono ?_; rintro e w' ⟨rfl, rfl⟩)
    go_wp2_with (go_at_call 48; refine HI.out.mono ?_)
    rintro e w5 ⟨rfl, x2⟩
    have HL5 := HH.out.ext x2
    have hgr5 := x2.block HGR.out
    have p1 := x2.cell P1.out
    have k0 := x2.cell KK.out.1
    have k1 := x2.cell KK.out.2.1
    have k2 := x2.cell KK.out.2.2
    have f0 := freeOf hgr5 (i * 3)
    have f1 := freeOf hgr5 (i * 3 + 1)
    have f2 := freeOf hgr5 (i * 3 + 2)
    have HF : Hid (LAfter own lb tb hb w T (H.set i ⟨0, 0, 1⟩) (((w5.setCell ⟨g, i * 3, none⟩ (.int .i64 0)).setCell ⟨g, i * 3 + 1, none⟩ (.int .i64 0)).setCell ⟨g, i * 3 + 2, none⟩ (.int .i64 1))) := qh (by
      have hlt : i < H.length := (List.getElem?_eq_some_iff.1 HX.out).1
      have s1 := HL5.set (f := 0) (v := .int .i64 0) (p' := ⟨0, x.at', x.off⟩) HX.out (by decide) rfl HBG.out
      have s2 := s1.set (i := i) (f := 1) (v := .int .i64 0) (p := ⟨0, x.at', x.off⟩) (p' := ⟨0, 0, x.off⟩) (List.getElem?_set_self hlt) (by decide) rfl HBG.out
      rw [List.set_set] at s2
      have s3 := s2.set (i := i) (f := 2) (v := .int .i64 1) (p := ⟨0, 0, x.off⟩) (p' := ⟨0, 0, 1⟩) (List.getElem?_set_self hlt) (by decide) rfl HBG.out
      rw [List.set_set, Nat.add_zero] at s3
      have hm0 : Mv (fun b => hb = some b) w w5 := Mv.ofExt x2
      exact ⟨own, ptr, _, hb, s3, LStep.move (((hm0.setCell (p := ⟨g, i * 3, none⟩) (fun _ => HBG.out) (.int .i64 0)).setCell (p := ⟨g, i * 3 + 1, none⟩) (fun _ => HBG.out) (.int .i64 0)).setCell (p := ⟨g, i * 3 + 2, none⟩) (fun _ => HBG.out) (.int .i64 1))⟩)
    clear HL5 hgr5 x2
    go_wp2_with fail
    go_ret
    exact ⟨rfl, HF.out⟩
end
section
variable {w : World} {own : Ow} {ptr : Nat → Nat} {lb tb : Nat} {T : Tr} {hv : Value} {hb : Option Nat} {H : List Hd}
theorem lHold_at (h : LiveAt w own ptr lb tb T hv hb H) {d : Nat → Nat} (hw : WF T d) (hA : AttrsOk T) (n a : Int) (hm : T.may n a = true) {i : Nat} {x : Hd} (hx : H[i]? = some x) (hxo : x.off = 1) (hfst : ∀ y ∈ H.take i, y.off ≠ 1) (hl : H.length ≤ 100000) :
    Calls Tryz.prog 21 #[.pointer (some ⟨lb, 0, none⟩), pl n a] w (LHoldIs own lb tb hb w T i (H.set i ⟨n, a, 0⟩)) := by
  have xa := (Ext.refl w).alloc (.cells #[.int .i64 n, .int .i64 a] 43)
  have hba := heap_alloc_new w (.cells #[.int .i64 n, .int .i64 a] 43)
  obtain ⟨wa, hwa⟩ : ∃ W : World, W = w.alloc (.cells #[.int .i64 n, .int .i64 a] 43) := ⟨_, rfl⟩
  rw [← hwa] at xa hba
  obtain ⟨pb, hpb⟩ : ∃ b, w.heap.size = b := ⟨_, rfl⟩
  rw [hpb] at hba
  have hA2 := h.ext xa
  have HT := qh hA2
  have HNN := qh (fun u : ExtOf wa => inExt (u := u) (RSame.val (none_some (hA2.ext u.ext).ptr_)))
  have HMM : Hid (∀ u : ExtOf wa, Calls Tryz.prog 13 #[.pointer (some ⟨tb, 0, none⟩), .agg #[.int .i64 n, .int .i64 a]] u.val (fun e w' => e = .returned (.bool true) ∧ ∃ u' : ExtOf wa, w' = u'.val)) :=
    qh (fun u => inExt (u := u) (by have h9 := May_any ((hA2.ext u.ext).tree.tat (hA2.ext u.ext).ownd) hw hA n a; rw [hm] at h9; exact h9))
  have c0 : ∀ u : ExtOf wa, u.val.cell? ⟨lb, 0, none⟩ = some (.pointer (some ⟨tb, 0, none⟩)) := fun u => u.ext.cell hA2.ptr_
  have d0 : ∀ u : ExtOf wa, u.val.cell? ⟨pb, 0, none⟩ = some (.int .i64 n) := fun u => u.ext.cell (cellOf hba rfl)
  have d1 : ∀ u : ExtOf wa, u.val.cell? ⟨pb, 1, none⟩ = some (.int .i64 a) := fun u => u.ext.cell (cellOf hba rfl)
  have HNO := qh (And.intro hx (And.intro hxo hfst))
  have XA := qh xa
  have HWA := qh hwa
  have HPB := qh hpb
  have HBA := qh hba
  have HL := qh hl
  have HH := qh h
  clear h hw hA hm hx hxo hfst hl xa hwa hpb hba hA2
  go_enter Tryz.func21, Tryz.ntmps21
  go_upto_region 1 with fail
  rw [← HWA.out, HPB.out]
  refine wp_region_ext (by kernel_rfl) (by kernel_rfl) ?_
  repeat (go_big_quiet_step ((first | (go_at_call 47; exact HNN.out _) | (go_at_call 13; exact HMM.out _))))
  refine wpQuiet_nil ?_
  rintro _ ⟨u, rfl⟩
  have hx := u.ext
  obtain ⟨w1, hw1⟩ : ∃ W, u.val = W := ⟨_, rfl⟩
  rw [hw1] at hx ⊢
  have HT1 := qh (HT.out.ext hx)
  have X1 := qh (XA.out.trans hx)
  have HB1 := qh (hx.block HBA.out)
  clear c0 d0 d1 hx hw1
  clear u
  have p1 := HT1.out.row_
  have HIX := qh (idxOff_any HL.out HT1.out.row)
  go_wp2_with (go_at_call 68; refine HIX.out.mono ?_)
  rintro e w2 ⟨k, rfl, hk, x2⟩
  obtain rfl : k = (i : Int) := by
    rcases hk with ⟨_, h⟩ | ⟨i2, x2', h1, h2, h3, h4⟩
    · exact absurd HNO.out.2.1 (h x (List.mem_of_getElem? HNO.out.1))
    · rw [h1]
      have hn1 : ¬ i < i2 := fun e => h4 x (List.mem_of_getElem? (by rw [List.getElem?_take, if_pos e]; exact HNO.out.1)) HNO.out.2.1
      have hn2 : ¬ i2 < i := fun e => HNO.out.2.2 x2' (List.mem_of_getElem? (by rw [List.getElem?_take, if_pos e]; exact h2)) h3
      omega
  have HT2 := qh (HT1.out.ext x2)
  have X2 := qh (X1.out.trans x2)
  have HB2 := qh (x2.block HB1.out)
  clear p1 hk x2 HIX
  obtain ⟨m, hm⟩ : ∃ m, H.length = m := ⟨_, rfl⟩
  have hilt : i < m := by rw [← hm]; exact (List.getElem?_eq_some_iff.1 HNO.out.1).1
  obtain ⟨a1, cap1, hse, -, hg4⟩ := HT2.out.at
  obtain ⟨g, cur, ea, hbg, hgr, htk, -⟩ := hg4 (by omega)
  subst ea
  subst hse
  have hml : m ≤ 100000 := by rw [← hm]; exact HL.out
  have e9 : decide ((i : Int) < 0) = false := decide_eq_false (by omega)
  go_upto_region 7 with fail
  have r0 : ∀ u : ExtOf w2, u.val.cell? ⟨lb, 1, none⟩ = some (.slice (some ⟨g, 0, none⟩) m cap1) := fun u => u.ext.cell (by rw [← hm]; exact HT2.out.row_)
  have r1 : ∀ u : ExtOf w2, u.val.cell? ⟨pb, 0, none⟩ = some (.int .i64 n) := fun u => u.ext.cell (cellOf HB2.out rfl)
  have r2 : ∀ u : ExtOf w2, u.val.cell? ⟨pb, 1, none⟩ = some (.int .i64 a) := fun u => u.ext.cell (cellOf HB2.out rfl)
  have i0 : (0 : Int) ≤ (i : Int) := by omega
  have i1 : (i : Int) < (m : Int) := by omega
  have itn : (i : Int).toNat = i := by omega
  have HGR := qh hgr
  have HTK := qh htk
  have HBG := qh hbg
  have HM := qh hm
  clear hg4 hbg hgr htk hm
  refine wp_region_ext_tail 8 (by kernel_rfl) (by kernel_rfl) ?_
  simp only [List.take_succ_cons, List.take_zero, List.drop_succ_cons, List.drop_zero]
  repeat (go_big_quiet_step (fail))
  refine wpQuiet_nil ?_
  rintro _ ⟨u, rfl⟩
  have hx := u.ext
  obtain ⟨w5, hw5⟩ : ∃ W, u.val = W := ⟨_, rfl⟩
  rw [hw5] at hx ⊢
  clear r0 r1 r2 hw5
  clear u
  have HT5 := HT2.out.ext hx
  have hgr5 := hx.block HGR.out
  have k0 := hold_cell (f := 0) hgr5 HTK.out HNO.out.1 (v := .int .i64 x.node) rfl
  have k1 := hold_cell (f := 1) hgr5 HTK.out HNO.out.1 (v := .int .i64 x.at') rfl
  have k2 := hold_cell (f := 2) hgr5 HTK.out HNO.out.1 (v := .int .i64 x.off) rfl
  rw [Nat.add_zero] at k0
  have f0 := freeOf hgr5 (i * 3)
  have f1 := freeOf hgr5 (i * 3 + 1)
  have f2 := freeOf hgr5 (i * 3 + 2)
  have HF : Hid (LAfter own lb tb hb w T (H.set i ⟨n, a, 0⟩) (((w5.setCell ⟨g, i * 3, none⟩ (.int .i64 n)).setCell ⟨g, i * 3 + 1, none⟩ (.int .i64 a)).setCell ⟨g, i * 3 + 2, none⟩ (.int .i64 0))) := qh (by
    have hlt : i < H.length := (List.getElem?_eq_some_iff.1 HNO.out.1).1
    have s1 := HT5.set (f := 0) (v := .int .i64 n) (p' := ⟨n, x.at', x.off⟩) HNO.out.1 (by decide) rfl HBG.out
    have s2 := s1.set (i := i) (f := 1) (v := .int .i64 a) (p := ⟨n, x.at', x.off⟩) (p' := ⟨n, a, x.off⟩) (List.getElem?_set_self hlt) (by decide) rfl HBG.out
    rw [List.set_set] at s2
    have s3 := s2.set (i := i) (f := 2) (v := .int .i64 0) (p := ⟨n, a, x.off⟩) (p' := ⟨n, a, 0⟩) (List.getElem?_set_self hlt) (by decide) rfl HBG.out
    rw [List.set_set, Nat.add_zero] at s3
    have hm0 : Mv (fun b => hb = some b) w w5 := (Mv.ofExt X2.out).ext hx
    exact ⟨own, ptr, _, hb, s3, LStep.move (((hm0.setCell (p := ⟨g, i * 3, none⟩) (fun _ => HBG.out) (.int .i64 n)).setCell (p := ⟨g, i * 3 + 1, none⟩) (fun _ => HBG.out) (.int .i64 a)).setCell (p := ⟨g, i * 3 + 2, none⟩) (fun _ => HBG.out) (.int .i64 0))⟩)
  clear HT5 hx hgr5
  go_wp2_with fail
  go_ret2
  exact ⟨rfl, HF.out⟩
theorem lHold_no (h : LiveAt w own ptr lb tb T hv hb H) {d : Nat → Nat} (hw : WF T d) (hA : AttrsOk T) (n a : Int) (hm : T.may n a = false) :
    Calls Tryz.prog 21 #[.pointer (some ⟨lb, 0, none⟩), pl n a] w (LTwo own lb tb hb w 0 1 T H) := by
  have xa := (Ext.refl w).alloc (.cells #[.int .i64 n, .int .i64 a] 43)
  have hba := heap_alloc_new w (.cells #[.int .i64 n, .int .i64 a] 43)
  obtain ⟨wa, hwa⟩ : ∃ W : World, W = w.alloc (.cells #[.int .i64 n, .int .i64 a] 43) := ⟨_, rfl⟩
  rw [← hwa] at xa hba
  obtain ⟨pb, hpb⟩ : ∃ b, w.heap.size = b := ⟨_, rfl⟩
  rw [hpb] at hba
  have hA2 := h.ext xa
  have HT := qh hA2
  have HNN := qh (fun u : ExtOf wa => inExt (u := u) (RSame.val (none_some (hA2.ext u.ext).ptr_)))
  have HMM : Hid (∀ u : ExtOf wa, Calls Tryz.prog 13 #[.pointer (some ⟨tb, 0, none⟩), .agg #[.int .i64 n, .int .i64 a]] u.val (fun e w' => e = .returned (.bool false) ∧ ∃ u' : ExtOf wa, w' = u'.val)) :=
    qh (fun u => inExt (u := u) (by have h9 := May_any ((hA2.ext u.ext).tree.tat (hA2.ext u.ext).ownd) hw hA n a; rw [hm] at h9; exact h9))
  have c0 : ∀ u : ExtOf wa, u.val.cell? ⟨lb, 0, none⟩ = some (.pointer (some ⟨tb, 0, none⟩)) := fun u => u.ext.cell hA2.ptr_
  have d0 : ∀ u : ExtOf wa, u.val.cell? ⟨pb, 0, none⟩ = some (.int .i64 n) := fun u => u.ext.cell (cellOf hba rfl)
  have d1 : ∀ u : ExtOf wa, u.val.cell? ⟨pb, 1, none⟩ = some (.int .i64 a) := fun u => u.ext.cell (cellOf hba rfl)
  have XA := qh xa
  have HWA := qh hwa
  have HPB := qh hpb
  have HBA := qh hba
  have HH := qh h
  clear h hw hA hm xa hwa hpb hba hA2
  go_enter Tryz.func21, Tryz.ntmps21
  go_upto_region 1 with fail
  rw [← HWA.out, HPB.out]
  refine wp_region_ext (by kernel_rfl) (by kernel_rfl) ?_
  repeat (go_big_quiet_step ((first | (go_at_call 47; exact HNN.out _) | (go_at_call 13; exact HMM.out _))))
  refine wpQuiet_nil ?_
  rintro _ ⟨u, rfl⟩
  have HF : Hid (LAfter own lb tb hb w T H u.val) := qh (LAfter.same HH.out (XA.out.trans u.ext))
  go_wp2_with fail
  go_ret2
  exact ⟨rfl, HF.out⟩
end
def placed (H : List Hd) (T : Tr) (k n a : Int) : List Hd := if (heldAt H k).isSome && T.may n a then H.set k.toNat ⟨n, a, 0⟩ else H
def placeErr (H : List Hd) (T : Tr) (k n a : Int) : Int := if (heldAt H k).isSome then (if T.may n a then 0 else 1) else 2
section
variable {w : World} {own : Ow} {ptr : Nat → Nat} {lb tb : Nat} {T : Tr} {hv : Value} {hb : Option Nat} {H : List Hd}
theorem lPlace_any (h : LiveAt w own ptr lb tb T hv hb H) {d : Nat → Nat} (hw : WF T d) (hA : AttrsOk T) (k n a : Int) (hl : H.length ≤ 100000) :
    Calls Tryz.prog 41 #[.pointer (some ⟨lb, 0, none⟩), .int .i64 k, pl n a] w (LErr own lb tb hb w (placeErr H T k n a) T (placed H T k n a)) := by
  have xa := (Ext.refl w).alloc (.cells #[.int .i64 n, .int .i64 a] 43)
  have hba := heap_alloc_new w (.cells #[.int .i64 n, .int .i64 a] 43)
  obtain ⟨wa, hwa⟩ : ∃ W : World, W = w.alloc (.cells #[.int .i64 n, .int .i64 a] 43) := ⟨_, rfl⟩
  rw [← hwa] at xa hba
  obtain ⟨pb, hpb⟩ : ∃ b, w.heap.size = b := ⟨_, rfl⟩
  rw [hpb] at hba
  have hA2 := h.ext xa
  have HT := qh hA2
  have HN := qh (none_some hA2.ptr_)
  have HI := qh (lIs_any hA2 k hl)
  have HMM := qh (fun (W : World) (x : Ext wa W) => May_any ((hA2.ext x).tree.tat (hA2.ext x).ownd) hw hA n a)
  have XA := qh xa
  have HWA := qh hwa
  have HPB := qh hpb
  have HBA := qh hba
  have HL := qh hl
  obtain ⟨pe, hpe⟩ : ∃ e, placeErr H T k n a = e := ⟨_, rfl⟩
  obtain ⟨ph, hph⟩ : ∃ e, placed H T k n a = e := ⟨_, rfl⟩
  rw [hpe, hph]
  unfold placeErr at hpe
  unfold placed at hph
  clear h hw hA hl xa hwa hpb hba hA2
  cases hh : heldAt H k with
  | none =>
    rw [hh] at HI hpe hph
    clear hh
    simp only [Option.isSome_none, Bool.false_eq_true, if_false, Bool.false_and] at hpe hph
    subst pe
    subst ph
    go_enter Tryz.func41, Tryz.ntmps41
    go_upto_region 1 with fail
    rw [← HWA.out, HPB.out]
    go_wp2_with (go_at_call 47; refine HN.out.mono ?_; rintro e w' ⟨rfl, rfl⟩)
    go_wp2_with (go_at_call 48; refine HI.out.mono ?_)
    rintro e w2 ⟨rfl, x2⟩
    have HF : Hid (LAfter own lb tb hb w T H w2) := qh ⟨own, ptr, hv, hb, HT.out.ext x2, (LStep.refl own lb hb w).ext (XA.out.trans x2)⟩
    clear x2
    go_wp2_with fail
    go_ret
    exact ⟨rfl, HF.out⟩
  | some x =>
    rw [hh] at HI hpe hph
    obtain ⟨i, rfl, hx, ho⟩ := heldAt_some hh
    simp only [Option.isSome_some, if_true, Bool.true_and, Int.toNat_natCast] at hpe hph
    have HPE := qh hpe
    have HPH := qh hph
    clear hpe hph
    have HX := qh (And.intro hx ho)
    clear hh hx ho
    go_enter Tryz.func41, Tryz.ntmps41
    go_upto_region 1 with fail
    rw [← HWA.out, HPB.out]
    go_wp2_with (go_at_call 47; refine HN.out.mono ?_; rintro e w' ⟨rfl, rfl⟩)
    go_upto_region 5 with (go_at_call 48; refine HI.out.mono ?_; rintro e w2 ⟨rfl, x2⟩; have X2 := qh x2; clear x2)
    have r0 : ∀ u : ExtOf w2, u.val.cell? ⟨lb, 0, none⟩ = some (.pointer (some ⟨tb, 0, none⟩)) := fun u => (X2.out.trans u.ext).cell HT.out.ptr_
    have r1 : ∀ u : ExtOf w2, u.val.cell? ⟨pb, 0, none⟩ = some (.int .i64 n) := fun u => (X2.out.trans u.ext).cell (cellOf HBA.out rfl)
    have r2 : ∀ u : ExtOf w2, u.val.cell? ⟨pb, 1, none⟩ = some (.int .i64 a) := fun u => (X2.out.trans u.ext).cell (cellOf HBA.out rfl)
    have HM2 := qh (fun u : ExtOf w2 => inExt (u := u) (HMM.out u.val (X2.out.trans u.ext)))
    refine wp_region_ext (by kernel_rfl) (by kernel_rfl) ?_
    cases hm : T.may n a with
    | false =>
      rw [hm] at HM2
      have hpe := HPE.out
      have hph := HPH.out
      clear HPE HPH
      rw [hm] at hpe hph
      simp only [Bool.false_eq_true, if_false] at hpe hph
      subst pe
      subst ph
      clear hm
      repeat (go_big_quiet_step ((go_at_call 13; exact HM2.out _)))
      refine wpQuiet_nil ?_
      rintro _ ⟨u, rfl⟩
      have HF : Hid (LAfter own lb tb hb w T H u.val) := qh ⟨own, ptr, hv, hb, HT.out.ext (X2.out.trans u.ext), (LStep.refl own lb hb w).ext (XA.out.trans (X2.out.trans u.ext))⟩
      clear r0 r1 r2
      go_wp2_with fail
      go_ret
      exact ⟨rfl, HF.out⟩
    | true =>
      rw [hm] at HM2
      have hpe := HPE.out
      have hph := HPH.out
      clear HPE HPH
      rw [hm] at hpe hph
      simp only [if_true] at hpe hph
      subst pe
      subst ph
      clear hm
      repeat (go_big_quiet_step ((go_at_call 13; exact HM2.out _)))
      refine wpQuiet_nil ?_
      rintro _ ⟨u, rfl⟩
      have hx := X2.out.trans u.ext
      obtain ⟨w3, hw3⟩ : ∃ W, u.val = W := ⟨_, rfl⟩
      rw [hw3] at hx ⊢
      clear r0 r1 r2 HM2 hw3
      clear u
      obtain ⟨m, hm⟩ : ∃ m, H.length = m := ⟨_, rfl⟩
      have hilt : i < m := by rw [← hm]; exact (List.getElem?_eq_some_iff.1 HX.out.1).1
      have HT3 := qh (HT.out.ext hx)
      have X3 := qh (XA.out.trans hx)
      have HB3 := qh (hx.block HBA.out)
      obtain ⟨a1, cap1, hse, -, hg4⟩ := HT3.out.at
      obtain ⟨g, cur, ea, hbg, hgr, htk, -⟩ := hg4 (by omega)
      subst ea
      subst hse
      have hml : m ≤ 100000 := by rw [← hm]; exact HL.out
      clear hx
      go_upto_region 7 with fail
      have r0 : ∀ u : ExtOf w3, u.val.cell? ⟨lb, 1, none⟩ = some (.slice (some ⟨g, 0, none⟩) m cap1) := fun u => u.ext.cell (by rw [← hm]; exact HT3.out.row_)
      have r1 : ∀ u : ExtOf w3, u.val.cell? ⟨pb, 0, none⟩ = some (.int .i64 n) := fun u => u.ext.cell (cellOf HB3.out rfl)
      have r2 : ∀ u : ExtOf w3, u.val.cell? ⟨pb, 1, none⟩ = some (.int .i64 a) := fun u => u.ext.cell (cellOf HB3.out rfl)
      have i0 : (0 : Int) ≤ (i : Int) := by omega
      have i1 : (i : Int) < (m : Int) := by omega
      have itn : (i : Int).toNat = i := by omega
      have HGR := qh hgr
      have HTK := qh htk
      have HBG := qh hbg
      have HM := qh hm
      clear hg4 hbg hgr htk hm
      refine wp_region_ext_tail 8 (by kernel_rfl) (by kernel_rfl) ?_
      simp only [List.take_succ_cons, List.take_zero, List.drop_succ_cons, List.drop_zero]
      repeat (go_big_quiet_step (fail))
      refine wpQuiet_nil ?_
      rintro _ ⟨u, rfl⟩
      have hx := u.ext
      obtain ⟨w5, hw5⟩ : ∃ W, u.val = W := ⟨_, rfl⟩
      rw [hw5] at hx ⊢
      clear r0 r1 r2 hw5
      clear u
      have HT5 := HT3.out.ext hx
      have hgr5 := hx.block HGR.out
      have k0 := hold_cell (f := 0) hgr5 HTK.out HX.out.1 (v := .int .i64 x.node) rfl
      have k1 := hold_cell (f := 1) hgr5 HTK.out HX.out.1 (v := .int .i64 x.at') rfl
      rw [Nat.add_zero] at k0
      have f0 := freeOf hgr5 (i * 3)
      have f1 := freeOf hgr5 (i * 3 + 1)
      have HF : Hid (LAfter own lb tb hb w T (H.set i ⟨n, a, 0⟩) ((w5.setCell ⟨g, i * 3, none⟩ (.int .i64 n)).setCell ⟨g, i * 3 + 1, none⟩ (.int .i64 a))) := qh (by
        have hlt : i < H.length := (List.getElem?_eq_some_iff.1 HX.out.1).1
        have s1 := HT5.set (f := 0) (v := .int .i64 n) (p' := ⟨n, x.at', x.off⟩) HX.out.1 (by decide) rfl HBG.out
        have s2 := s1.set (i := i) (f := 1) (v := .int .i64 a) (p := ⟨n, x.at', x.off⟩) (p' := ⟨n, a, x.off⟩) (List.getElem?_set_self hlt) (by decide) rfl HBG.out
        rw [List.set_set, HX.out.2, Nat.add_zero] at s2
        have hm0 : Mv (fun b => hb = some b) w w5 := (Mv.ofExt X3.out).ext hx
        exact ⟨own, ptr, _, hb, s2, LStep.move ((hm0.setCell (p := ⟨g, i * 3, none⟩) (fun _ => HBG.out) (.int .i64 n)).setCell (p := ⟨g, i * 3 + 1, none⟩) (fun _ => HBG.out) (.int .i64 a))⟩)
      clear HT5 hx hgr5
      go_wp2_with fail
      go_ret
      exact ⟨rfl, HF.out⟩
theorem lSetText_any (h : LiveAt w own ptr lb tb T hv hb H) (hl : H.length ≤ 100000) {d : Nat → Nat} (hw : WF T d) (hA : AttrsOk T) (id : Int) (s : ByteArray) (hs : s.size ≤ 1000000) {c : Nat} (hc : max 0 (T.lengthOf id) = (c : Int)) (hc2 : c ≤ 1000000) {er : Int} {T' : Tr}
    (hd : ∀ W, Ext w W → Calls Tryz.prog 127 #[.pointer (some ⟨tb, 0, none⟩), .int .i64 id, .string s] W (ErrAfter own W tb er T'))
    (hP : er = 0 → okI id ∧ okH H) :
    Calls Tryz.prog 37 #[.pointer (some ⟨lb, 0, none⟩), .int .i64 id, .string s] w (LErr own lb tb hb w er T' (movedIf er (repP id 0 c (runeList s s.size 0).length) H)) := by
  have HN := qh (none_some h.ptr_)
  have HLE := qh (Length_any (h.tree.tat h.ownd) hw hA id)
  obtain ⟨L, hL⟩ : ∃ L, T.lengthOf id = L := ⟨_, rfl⟩
  rw [hL] at HLE hc
  have HH := qh h
  have HC := qh hc
  have HRE := qh (fun (W : World) (x : Ext w W) => lreplace_any (h.ext x) hl id 0 (c : Int) s s hs (er := er) (T' := T') (fun V hV => hd V (x.trans hV)) (fun he => ⟨(hP he).1, by unfold okI; omega, by unfold okI; omega, (hP he).2⟩))
  have p0 := h.ptr_
  clear h hl hw hA hs hL hd hP hc hc2
  go_enter Tryz.func37, Tryz.ntmps37
  go_wp2_with (go_at_call 47; refine HN.out.mono ?_; rintro e w' ⟨rfl, rfl⟩)
  go_wp2_with (go_at_call 49; refine HLE.out.mono ?_)
  rintro e w1 ⟨rfl, x1⟩
  have X1 := qh x1
  clear x1 p0
  go_wp2_with (first | rw [HC.out]; go_at_call 78; refine (HRE.out _ X1.out).mono ?_)
  rintro e w6 ⟨rfl, ha6⟩
  have HF : Hid (LAfter own lb tb hb w T' (movedIf er (repP id 0 c (runeList s s.size 0).length) H) w6) := qh (by
    obtain ⟨o9, p9, v9, b9, k1, k2⟩ := ha6
    exact ⟨o9, p9, v9, b9, k1, ((LStep.refl own lb hb w).ext X1.out).trans k2⟩)
  clear ha6
  go_wp2_with fail
  go_ret
  exact ⟨rfl, HF.out⟩
end
end Go.Proofs.YthgnbbbdcebjhaaGreat
namespace Go.Proofs.YthgnbbbdcebjhaaGreat
open Go
def dropP (L : List Int) : Int → Int → Int × Int := fun n a => if n ∈ L then (0, 0) else (n, a)
def mayH (T : Tr) (H : List Hd) : Prop := ∀ x ∈ H, x.off = 0 → T.may x.node x.at' = true
theorem may_iff {T : Tr} {n a : Int} : T.may n a = true ↔ 0 ≤ a ∧ a ≤ T.lengthOf n := by
  unfold Tr.may
  rw [Bool.and_eq_true, decide_eq_true_eq, decide_eq_true_eq]
theorem mayH.map {T T' : Tr} {H : List Hd} {f : Int → Int → Int × Int} (h : mayH T H) (hf : ∀ n a, T.may n a = true → T'.may (f n a).1 (f n a).2 = true) : mayH T' (H.map (moved f)) := by
  intro y hy ho
  obtain ⟨x, hx, rfl⟩ := List.mem_map.1 hy
  unfold moved at ho ⊢
  by_cases hx0 : x.off = 0
  · rw [if_pos hx0]
    exact hf _ _ (h x hx hx0)
  · rw [if_neg hx0] at ho
    exact absurd ho hx0
theorem may_ins {T T' : Tr} {p q : Int} (h1 : ∀ n, n ≠ p → T'.lengthOf n = T.lengthOf n) (h2 : T'.lengthOf p = T.lengthOf p + 1) (n a : Int) (h : T.may n a = true) : T'.may (insP p q 1 n a).1 (insP p q 1 n a).2 = true := by
  rw [may_iff] at h ⊢
  show 0 ≤ insA n a p q 1 ∧ insA n a p q 1 ≤ T'.lengthOf n
  unfold insA
  by_cases hn : n = p
  · subst hn
    rw [h2]
    split <;> omega
  · rw [if_neg (fun e => hn e.1), h1 n hn]
    exact h
theorem may_rem {T T' : Tr} {id p q : Int} (h1 : ∀ n, n ≠ p → T'.lengthOf n = T.lengthOf n) (h2 : T'.lengthOf p = T.lengthOf p - 1) (hq : 0 ≤ q) (hq2 : q < T.lengthOf p) (n a : Int) (h : T.may n a = true) : T'.may (remP T' id p q n a).1 (remP T' id p q n a).2 = true := by
  unfold remP
  split
  · rw [may_iff, h2]
    exact ⟨hq, by show q ≤ _; omega⟩
  · rw [may_iff] at h ⊢
    show 0 ≤ remA n a p q ∧ remA n a p q ≤ T'.lengthOf n
    unfold remA
    by_cases hn : n = p
    · subst hn
      rw [h2]
      split
      · omega
      · rename_i hc
        have : ¬ q < a := fun e => hc ⟨rfl, e⟩
        omega
    · rw [if_neg (fun e => hn e.1), h1 n hn]
      exact h
theorem may_rep {T T' : Tr} {p q c m : Int} (h1 : ∀ n, n ≠ p → T'.lengthOf n = T.lengthOf n) (h2 : T'.lengthOf p = T.lengthOf p - c + m) (hq : 0 ≤ q) (hc : 0 ≤ c) (hm : 0 ≤ m) (hqc : q + c ≤ T.lengthOf p) (n a : Int) (h : T.may n a = true) : T'.may (repP p q c m n a).1 (repP p q c m n a).2 = true := by
  rw [may_iff] at h ⊢
  show 0 ≤ repA n a p q c m ∧ repA n a p q c m ≤ T'.lengthOf n
  unfold repA
  by_cases hn : n = p
  · subst hn
    rw [h2]
    split
    · split <;> omega
    · rename_i hx
      have : ¬ q < a := fun e => hx ⟨rfl, e⟩
      omega
  · rw [if_neg (fun e => hn e.1), h1 n hn]
    exact h
theorem lengthOf_eq (T : Tr) (id : Int) : T.lengthOf id = match T.get? id with | none => -1 | some nd => if nd.tag = -1 then -1 else if nd.tag = 0 then (runes nd.text : Int) else (nd.kids.length : Int) := by
  unfold Tr.lengthOf Tr.tagOf Tr.txt Tr.kidsOf
  cases T.get? id <;> simp
theorem get_nat (T : Tr) (i : Nat) : T.get? (i : Int) = (T.nodes[i]?).join := by
  unfold Tr.get?
  rw [if_neg (by omega), Int.toNat_natCast]
theorem get_neg (T : Tr) {id : Int} (h : id < 0) : T.get? id = none := by
  unfold Tr.get?
  rw [if_pos h]
theorem set2_len {T : Tr} {p k : Nat} {pd kd pd' kd' : Nd} (hp : T.nodes[p]? = some (some pd)) (hk : T.nodes[k]? = some (some kd)) (hpk : p ≠ k) (h1 : kd'.tag = kd.tag ∧ kd'.text = kd.text ∧ kd'.kids = kd.kids) :
    (∀ n, n ≠ (p : Int) → (T.set2 p k pd' kd').lengthOf n = T.lengthOf n) ∧ (T.set2 p k pd' kd').get? p = some pd' := by
  have hpl := (List.getElem?_eq_some_iff.1 hp).1
  have hkl := (List.getElem?_eq_some_iff.1 hk).1
  refine ⟨fun n hn => ?_, ?_⟩
  · by_cases h0 : n < 0
    · rw [lengthOf_eq, lengthOf_eq, get_neg _ h0, get_neg _ h0]
    · obtain ⟨i, rfl⟩ := Int.eq_ofNat_of_zero_le (show 0 ≤ n by omega)
      have hip : i ≠ p := fun e => hn (by rw [e])
      rw [lengthOf_eq, lengthOf_eq, get_nat, get_nat, Tr.set2_get hp hk]
      by_cases hik : i = k
      · subst hik
        rw [if_pos rfl, hk]
        show (if kd'.tag = -1 then _ else _) = (if kd.tag = -1 then _ else _)
        rw [h1.1, h1.2.1, h1.2.2]
      · rw [if_neg hik, if_neg hip]
  · rw [get_nat, Tr.set2_get hp hk, if_neg hpk, if_pos rfl]
    rfl
theorem link_len {T : Tr} {p a k : Nat} {pd kd : Nd} (hp : T.nodes[p]? = some (some pd)) (hk : T.nodes[k]? = some (some kd)) (hpk : p ≠ k) (ht : pd.tag ≠ 0) (ht2 : pd.tag ≠ -1) (ha : a ≤ pd.kids.length) :
    (∀ n, n ≠ (p : Int) → (T.link p a k pd kd).lengthOf n = T.lengthOf n) ∧ (T.link p a k pd kd).lengthOf p = T.lengthOf p + 1 := by
  rw [Tr.link_eq]
  obtain ⟨h1, h2⟩ := set2_len (pd' := { pd with kids := pd.kids.take a ++ [(k : Int)] ++ pd.kids.drop a }) (kd' := { kd with parent := p }) hp hk hpk ⟨rfl, rfl, rfl⟩
  refine ⟨h1, ?_⟩
  rw [lengthOf_eq, h2, lengthOf_eq, Tr.get_of hp]
  show (if pd.tag = -1 then _ else if pd.tag = 0 then _ else _) = (if pd.tag = -1 then _ else if pd.tag = 0 then _ else _) + 1
  rw [if_neg ht2, if_neg ht, if_neg ht2, if_neg ht]
  simp
  omega
theorem unlink_len {T : Tr} {p k : Nat} {pd kd : Nd} (hp : T.nodes[p]? = some (some pd)) (hk : T.nodes[k]? = some (some kd)) (hpk : p ≠ k) (ht : pd.tag ≠ 0) (ht2 : pd.tag ≠ -1) (hin : (k : Int) ∈ pd.kids) :
    (∀ n, n ≠ (p : Int) → (T.unlink p k pd kd).lengthOf n = T.lengthOf n) ∧ (T.unlink p k pd kd).lengthOf p = T.lengthOf p - 1 := by
  obtain ⟨h1, h2⟩ := set2_len (pd' := { pd with kids := pd.kids.erase (k : Int) }) (kd' := { kd with parent := -1 }) hp hk hpk ⟨rfl, rfl, rfl⟩
  refine ⟨h1, ?_⟩
  rw [lengthOf_eq, show (T.unlink p k pd kd).get? p = _ from h2, lengthOf_eq, Tr.get_of hp]
  show (if pd.tag = -1 then _ else if pd.tag = 0 then _ else (((pd.kids.erase (k : Int)).length : Nat) : Int)) = (if pd.tag = -1 then _ else if pd.tag = 0 then _ else _) - 1
  rw [if_neg ht2, if_neg ht, if_neg ht2, if_neg ht, List.length_erase_of_mem hin]
  have := List.length_pos_of_mem hin
  omega
end Go.Proofs.YthgnbbbdcebjhaaGreat
namespace Go.Proofs.YthgnbbbdcebjhaaGreat
open Go Go.RowKit Go.BigFrame
theorem heldAt_of {H : List Hd} {i : Nat} {x : Hd} (h : H[i]? = some x) (ho : x.off = 0) : heldAt H (i : Int) = some x := by
  unfold heldAt
  rw [if_neg (by omega), Int.toNat_natCast, h]
  simp [ho]
theorem containsI_any {w : World} {v : Value} {l : List Int} (h : RowRd w 1 v l.length (l.map (Value.int .i64))) (hl : l.length ≤ 60000) (x : Int) :
    Calls Tryz.prog 97 #[v, .int .i64 x] w (RSame (.bool (decide (x ∈ l))) w) := by
  have HI := qh (index_any h (by omega) x)
  have HB : Hid (decide (0 ≤ posOf l x) = decide (x ∈ l)) := qh (by
    unfold posOf
    by_cases hx : x ∈ l
    · rw [if_pos hx, decide_eq_true hx]; exact decide_eq_true (by omega)
    · rw [if_neg hx, decide_eq_false hx]; rfl)
  obtain ⟨k, hk⟩ : ∃ k, posOf l x = k := ⟨_, rfl⟩
  rw [hk] at HI HB
  rw [← HB.out]
  clear h hl hk
  go_enter Tryz.func97, Tryz.ntmps97
  go_wp2_with (go_at_call 106; refine HI.out.mono ?_; rintro e w' ⟨rfl, rfl⟩)
  go_ret
  exact ⟨rfl, rfl⟩
section
variable {w : World} {own : Ow} {ptr : Nat → Nat} {lb tb : Nat} {T : Tr} {hv : Value} {hb : Option Nat} {H : List Hd}
theorem byDrop {w : World} {hb : Option Nat} {b0 : Nat} {v : Value} (L : List Int) (hl : L.length ≤ 60000) (h0 : w.cell? ⟨b0, 0, none⟩ = some v) (g0 : hb ≠ some b0) (hr : RowP w (fun g => hb ≠ some g) 3 1 v L.length (L.map (Value.int .i64))) :
    ByIs w hb (.func (.func 96) #[] #[.pointer (some ⟨b0, 0, none⟩)]) (fun _ _ => True) (dropP L) := by
  refine ⟨_, _, rfl, enters_of Tryz.func96 (by kernel_rfl) rfl, fun W n a hm _ => ?_⟩
  show Calls Tryz.prog 96 #[pl n a, .pointer (some ⟨b0, 0, none⟩)] W _
  have xa := (Ext.refl W).alloc (.cells #[.int .i64 n, .int .i64 a] 43)
  have hba := heap_alloc_new W (.cells #[.int .i64 n, .int .i64 a] 43)
  obtain ⟨wa, hwa⟩ : ∃ V : World, V = W.alloc (.cells #[.int .i64 n, .int .i64 a] 43) := ⟨_, rfl⟩
  have hsz : wa.heap.size = W.heap.size + 1 := by rw [hwa]; simp
  rw [← hwa] at xa hba
  have xb := (Ext.refl wa).alloc (.cells #[.int .i64 0, .int .i64 0] 43)
  have hbb := heap_alloc_new wa (.cells #[.int .i64 0, .int .i64 0] 43)
  have hab := xb.block hba
  obtain ⟨wb, hwb⟩ : ∃ V : World, V = wa.alloc (.cells #[.int .i64 0, .int .i64 0] 43) := ⟨_, rfl⟩
  rw [← hwb] at xb hbb hab
  have c0 := cellOf hab (i := 0) (v := .int .i64 n) rfl
  have c1 := cellOf hab (i := 1) (v := .int .i64 a) rfl
  have e0 := (xa.trans xb).cell (hm.cell h0 g0)
  have HC := qh (containsI_any (RowP.rd (RowP.ext (RowP.mv hr hm fun g hg e => hg e) (xa.trans xb))) hl n)
  have XB := qh (xa.trans xb)
  have HBB := qh hbb
  have HWA := qh hwa
  have HWB := qh hwb
  have HSZ := qh hsz
  have HFV : Hid (dropP L n a = if decide (n ∈ L) = true then (0, 0) else (n, a)) := qh (by unfold dropP; simp)
  obtain ⟨bb, hbe⟩ : ∃ b, decide (n ∈ L) = b := ⟨_, rfl⟩
  rw [hbe] at HC HFV
  clear xa xb hba hbb hab hwa hwb hm hsz hr hl hbe h0
  go_enter Tryz.func96, Tryz.ntmps96
  go_upto_region 1 with fail
  rw [← HWA.out, ← HWB.out]
  obtain ⟨gb, hgb⟩ : ∃ g, wa.heap.size = g := ⟨_, rfl⟩
  have HGB := qh hgb
  have hg2 : W.heap.size + 1 = gb := by rw [← hgb, HSZ.out]
  have hgt : W.heap.size ≤ gb := by omega
  rw [hg2]
  rw [hgb] at HBB
  obtain ⟨ga, hga⟩ : ∃ g, W.heap.size = g := ⟨_, rfl⟩
  rw [hga] at c0 c1 ⊢
  have k0 := cellOf HBB.out (i := 0) rfl
  have k1 := cellOf HBB.out (i := 1) rfl
  have f0 := freeOf HBB.out 0
  have f1 := freeOf HBB.out 1
  have HGT := qh hgt
  clear hgb hg2 hga hgt
  obtain ⟨n', hn'⟩ : ∃ z, (dropP L n a).1 = z := ⟨_, rfl⟩
  obtain ⟨a', ha'⟩ : ∃ z, (dropP L n a).2 = z := ⟨_, rfl⟩
  rw [hn', ha']
  have XF := qh ((XB.out.setCell (p := ⟨gb, 0, none⟩) HGT.out (.int .i64 n')).setCell (p := ⟨gb, 1, none⟩) HGT.out (.int .i64 a'))
  have B3 : ((wb.setCell ⟨gb, 0, none⟩ (.int .i64 n')).setCell ⟨gb, 1, none⟩ (.int .i64 a')).heap[gb]? = some (.cells #[.int .i64 n', .int .i64 a'] 43 (0, 0)) := heap_setCell_same (i := 1) (heap_setCell_same (i := 0) HBB.out (.int .i64 n')) (.int .i64 a')
  have HLV := qh (run_loadVar_row (P := Tryz.prog) _ gb 43 43 _ (0, 0) _ B3 Tryz.underlying43 rfl (by kernel_rfl))
  clear B3
  cases bb with
  | true =>
    have h1 := HFV.out
    rw [if_pos rfl] at h1
    rw [h1] at hn' ha'
    have en : n' = 0 := hn'.symm
    have ea : a' = 0 := ha'.symm
    subst en
    subst ea
    clear hn' ha' h1
    go_wp2_with (go_at_call 97; refine HC.out.mono ?_; rintro e w' ⟨rfl, rfl⟩)
    have hlv := HLV.out
    refine bodyPost_ret (v := pl 0 0) (by simp [results, Tryz.results96, asAddr, hlv]) rfl ?_
    exact ⟨by have h9 := HFV.out; simp only [if_true] at h9; rw [h9], XF.out⟩
  | false =>
    have h1 := HFV.out
    rw [if_neg Bool.false_ne_true] at h1
    rw [h1] at hn' ha'
    have en : n' = n := hn'.symm
    have ea : a' = a := ha'.symm
    subst en
    subst ea
    clear hn' ha' h1
    go_wp2_with (go_at_call 97; refine HC.out.mono ?_; rintro e w' ⟨rfl, rfl⟩)
    have hlv := HLV.out
    refine bodyPost_ret (v := pl n' a') (by simp [results, Tryz.results96, asAddr, hlv]) rfl ?_
    exact ⟨by have h9 := HFV.out; simp only [Bool.false_eq_true, if_false] at h9; rw [h9], XF.out⟩
theorem lDrop_any (h : LiveAt w own ptr lb tb T hv hb H) (hl : H.length ≤ 100000) (id : Int) {er : Int} {T' : Tr} {d : Nat → Nat} (hw : WF T d)
    (hd : ∀ W, Ext w W → Calls Tryz.prog 95 #[.pointer (some ⟨tb, 0, none⟩), .int .i64 id] W (ErrAfter own W tb er T')) :
    Calls Tryz.prog 35 #[.pointer (some ⟨lb, 0, none⟩), .int .i64 id] w (LErr own lb tb hb w er T' (movedIf er (dropP (T.allOf id)) H)) := by
  have HNN := qh (none_some h.ptr_)
  have HH := qh h
  have HD := qh hd
  have HL := qh hl
  have HAL := qh (fun (W : World) (x : Ext w W) => All_any ((h.ext x).tree.tat (h.ext x).ownd) hw id)
  have hll := allOf_2000 hw id
  obtain ⟨L, hL⟩ : ∃ L, T.allOf id = L := ⟨_, rfl⟩
  rw [hL] at hll HAL ⊢
  have m0 := h.ptr_
  clear h hd hl hw hL
  go_enter Tryz.func35, Tryz.ntmps35
  go_upto_region 4 with (first | (go_at_call 47; refine HNN.out.mono ?_; rintro e w' ⟨rfl, rfl⟩) | (go_at_call 94; refine (HAL.out _ (Ext.refl _)).mono ?_; rintro e w1 ⟨v, rfl, hr, hx⟩; obtain ⟨al, cl, rfl, hcl⟩ := RowP.len_of' hr; have HR := qh hr; have X1 := qh hx; have m0 := hx.cell m0; clear hr hx))
  have hba := heap_alloc_new w1 (.cells #[.slice al L.length cl] 40)
  have xa := (Ext.refl w1).alloc (.cells #[.slice al L.length cl] 40)
  obtain ⟨wa, hwa⟩ : ∃ W : World, W = w1.alloc (.cells #[.slice al L.length cl] 40) := ⟨_, rfl⟩
  have hs1 := X1.out.size
  obtain ⟨b0, hb0⟩ : ∃ b, w1.heap.size = b := ⟨_, rfl⟩
  rw [← hwa] at hba xa ⊢
  rw [hb0] at hba hs1 ⊢
  have m0 := xa.cell m0
  have N0 := qh (HH.out.new_own (b := b0) hs1)
  have HB0 := qh hba
  have XA := qh (X1.out.trans xa)
  have HR0 := qh (RowP.ext HR.out xa)
  clear hba xa hwa hb0 hs1
  go_wp2_with (go_at_call 95; refine (HD.out _ XA.out).mono ?_)
  rintro e w6 ⟨rfl, ha⟩
  obtain ⟨own', ptr', hT6, hS6, hst⟩ := (HH.out.ext XA.out).after ha
  have B0 := qh (hst.mv.block HB0.out (fun hn => hn N0.out.1))
  have HR6 := qh (RowP.mv HR0.out hst.mv (fun g hg hn => hn (HH.out.new_own (b := g) hg).1))
  have HT6 := qh hT6
  have HS6 := qh (((LStep.refl own lb hb w).ext XA.out).trans hS6)
  clear ha hT6 hS6 hst
  by_cases her : er = 0
  · subst her
    have HMV := qh (lMove_any HT6.out HL.out (P := fun _ _ => True) (fun _ _ _ => trivial) (byDrop L (by omega) (cellOf B0.out (i := 0) rfl) N0.out.2.2 (RowP.imp HR6.out fun g _ hg => (HH.out.new_own (b := g) hg).2.2)))
    have c0 := cellOf B0.out (i := 0) rfl
    clear m0
    go_wp2_with (go_at_call 56; refine HMV.out.mono ?_)
    rintro e w8 ⟨rfl, hT8, hm8⟩
    have HF : Hid (LAfter own lb tb hb w T' (H.map (moved (dropP L))) w8) := qh ⟨own', ptr', _, _, hT8, HS6.out.trans (LStep.move hm8)⟩
    clear hT8 hm8 c0
    go_wp2_with fail
    go_ret
    exact ⟨rfl, by unfold movedIf; rw [if_pos rfl]; exact HF.out⟩
  · have e0 : (er == 0) = false := beq_eq_false_iff_ne.2 her
    have HE := qh her
    clear her m0
    go_wp2_with fail
    go_ret
    exact ⟨rfl, by unfold movedIf; rw [if_neg HE.out]; exact ⟨own', ptr', _, _, HT6.out, HS6.out⟩⟩
end
section
variable {w : World} {own : Ow} {ptr : Nat → Nat} {lb tb : Nat} {T : Tr} {hv : Value} {hb : Option Nat} {H : List Hd}
theorem LiveAt.stay (h : LiveAt w own ptr lb tb T hv hb H) {w' : World} (x : Ext w w') : LAfter own lb tb hb w T H w' := ⟨own, ptr, hv, hb, h.ext x, (LStep.refl own lb hb w).ext x⟩
theorem lReplace_none (h : LiveAt w own ptr lb tb T hv hb H) (id a c : Int) (s : ByteArray) (hg : T.get? id = none) :
    Calls Tryz.prog 26 #[.pointer (some ⟨lb, 0, none⟩), .int .i64 id, .int .i64 a, .int .i64 c, .string s] w (LErr own lb tb hb w 2 T H) := by
  have HNN := qh (none_some h.ptr_)
  have HHAS := qh (Has_none h.tree hg)
  have HF := qh (h.stay (Ext.refl w))
  have p0 := h.ptr_
  clear h hg
  go_enter Tryz.func26, Tryz.ntmps26
  go_wp2_with (go_at_call 47; refine HNN.out.mono ?_; rintro e w' ⟨rfl, rfl⟩)
  go_wp2_with (go_at_call 75; refine HHAS.out.mono ?_; rintro e w' ⟨rfl, rfl⟩)
  go_ret
  exact ⟨rfl, HF.out⟩
theorem lReplace_kind (h : LiveAt w own ptr lb tb T hv hb H) (id a c : Int) (s : ByteArray) {nd : Nd} (hg : T.get? id = some nd) (ht : nd.tag ≠ 0) :
    Calls Tryz.prog 26 #[.pointer (some ⟨lb, 0, none⟩), .int .i64 id, .int .i64 a, .int .i64 c, .string s] w (LErr own lb tb hb w 6 T H) := by
  have HNN := qh (none_some h.ptr_)
  have HHAS := qh (Has_some h.tree hg)
  have HTAG := qh (Tag_some h.tree hg)
  have HF := qh (h.stay (Ext.refl w))
  have p0 := h.ptr_
  obtain ⟨t, hte⟩ : ∃ t, nd.tag = t := ⟨_, rfl⟩
  rw [hte] at ht HTAG
  have e0 : (t == 0) = false := beq_eq_false_iff_ne.2 ht
  clear h hg ht hte
  go_enter Tryz.func26, Tryz.ntmps26
  go_wp2_with (go_at_call 47; refine HNN.out.mono ?_; rintro e w' ⟨rfl, rfl⟩)
  go_wp2_with (go_at_call 75; refine HHAS.out.mono ?_; rintro e w' ⟨rfl, rfl⟩)
  go_wp2_with (go_at_call 76; refine HTAG.out.mono ?_; rintro e w' ⟨rfl, rfl⟩)
  go_ret
  exact ⟨rfl, HF.out⟩
theorem lReplace_arg (h : LiveAt w own ptr lb tb T hv hb H) {d : Nat → Nat} (hw : WF T d) (hA : AttrsOk T) (id a c : Int) (s : ByteArray) {nd : Nd} (hg : T.get? id = some nd) (ht : nd.tag = 0) (hac : a < 0 ∨ (runes nd.text : Int) < a ∨ c < 0) :
    Calls Tryz.prog 26 #[.pointer (some ⟨lb, 0, none⟩), .int .i64 id, .int .i64 a, .int .i64 c, .string s] w (LErr own lb tb hb w 1 T H) := by
  have hlen : T.lengthOf id = (runes nd.text : Int) := by
    unfold Tr.lengthOf Tr.tagOf Tr.txt
    rw [hg]
    simp [ht]
  have HNN := qh (none_some h.ptr_)
  have HHAS := qh (Has_some h.tree hg)
  have hta := Tag_some h.tree hg
  rw [ht] at hta
  have HTAG := qh hta
  have hle := Length_any (h.tree.tat h.ownd) hw hA id
  rw [hlen] at hle
  have HLE := qh hle
  have p0 := h.ptr_
  obtain ⟨L, hLn⟩ : ∃ L, runes nd.text = L := ⟨_, rfl⟩
  rw [hLn] at hac HLE
  have HF := qh (fun (W : World) (x : Ext w W) => h.stay x)
  clear h hw hA hg ht hlen hta hle hLn
  by_cases h1 : a < 0
  · have e1 : decide (a < 0) = true := decide_eq_true h1
    clear hac h1
    go_enter Tryz.func26, Tryz.ntmps26
    go_wp2_with (go_at_call 47; refine HNN.out.mono ?_; rintro e w' ⟨rfl, rfl⟩)
    go_wp2_with (go_at_call 75; refine HHAS.out.mono ?_; rintro e w' ⟨rfl, rfl⟩)
    go_wp2_with (go_at_call 76; refine HTAG.out.mono ?_; rintro e w' ⟨rfl, rfl⟩)
    go_ret
    exact ⟨rfl, HF.out _ (Ext.refl w)⟩
  · have e1 : decide (a < 0) = false := decide_eq_false h1
    by_cases h2 : (L : Int) < a
    · have e2 : decide ((L : Int) < a) = true := decide_eq_true h2
      clear hac h1 h2
      go_enter Tryz.func26, Tryz.ntmps26
      go_wp2_with (go_at_call 47; refine HNN.out.mono ?_; rintro e w' ⟨rfl, rfl⟩)
      go_wp2_with (go_at_call 75; refine HHAS.out.mono ?_; rintro e w' ⟨rfl, rfl⟩)
      go_wp2_with (go_at_call 76; refine HTAG.out.mono ?_; rintro e w' ⟨rfl, rfl⟩)
      go_wp2_with (go_at_call 49; refine HLE.out.mono ?_)
      rintro e w1 ⟨rfl, x1⟩
      have HF1 := qh (HF.out _ x1)
      clear x1
      go_wp2_with fail
      go_ret
      exact ⟨rfl, HF1.out⟩
    · have e2 : decide ((L : Int) < a) = false := decide_eq_false h2
      have h3 : c < 0 := by omega
      have e3 : decide (c < 0) = true := decide_eq_true h3
      clear hac h1 h2 h3
      go_enter Tryz.func26, Tryz.ntmps26
      go_wp2_with (go_at_call 47; refine HNN.out.mono ?_; rintro e w' ⟨rfl, rfl⟩)
      go_wp2_with (go_at_call 75; refine HHAS.out.mono ?_; rintro e w' ⟨rfl, rfl⟩)
      go_wp2_with (go_at_call 76; refine HTAG.out.mono ?_; rintro e w' ⟨rfl, rfl⟩)
      go_wp2_with (go_at_call 49; refine HLE.out.mono ?_)
      rintro e w1 ⟨rfl, x1⟩
      have HF1 := qh (HF.out _ x1)
      clear x1
      go_wp2_with fail
      go_ret
      exact ⟨rfl, HF1.out⟩
end
end Go.Proofs.YthgnbbbdcebjhaaGreat

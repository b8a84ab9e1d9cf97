/- what of ZP Z1 Z2 Z3 BA BB BC BD BE BF BG BH BI BJ BK BL BM BN BO BP BQ BR BS BT ZY BV BW BY Z4 CA CB CC CD CE CF ZD CG CI CH is leant on -/
import Derived.Test.YtalaajbajgdglaaGreatDoorLSng
set_option linter.unusedVariables false
set_option linter.unusedSimpArgs false
set_option maxRecDepth 1000000
set_option maxHeartbeats 8000000
namespace Go.Proofs.YtalaajbajgdglaaGreatDoor
open Go
def tsZ (z : ZS) : List Int := (tagsZ z).dropLast
theorem tsZ_cons (f g : ZF) (r : ZS) : tsZ (f :: g :: r) = f.tag :: tsZ (g :: r) := rfl
def GoodTs : List Int → Prop
  | [] => True
  | t :: r => (clsT t = 2 ∨ clsT t = 3 → lineIn r = false ∧ (t = 9 → liIn r = false)) ∧ GoodTs r
theorem line_drop : ∀ ts : List Int, GoodTs ts → lineIn (ts.drop (closeC isPH stPH (ts ++ [1]))) = false := by
  intro ts
  induction ts with
  | nil => intro _; rfl
  | cons t r ih =>
    intro ⟨h, hr⟩
    rw [List.cons_append, closeC_step _ _ _ (by simp)]
    by_cases h2 : 2 ≤ t ∧ t ≤ 5
    · have h3 : isPH t = true := (isPH_iff t).2 h2
      rw [h3, Bool.not_true, Bool.and_false, if_neg Bool.false_ne_true, if_pos rfl, List.drop_succ_cons]
      have hc : clsT t = 3 := by
        unfold clsT
        rw [if_neg (by omega), if_neg (by omega), if_neg (by omega), if_pos (by omega)]
      exact (h (.inr hc)).1
    · have h3 : isPH t = false := Bool.eq_false_iff.2 fun e => h2 ((isPH_iff t).1 e)
      rw [h3, Bool.not_false, Bool.and_true]
      by_cases h4 : clsT t = 2 ∨ t = 9
      · rw [(stPH_iff t).2 h4, if_pos rfl, List.drop_zero]
        unfold lineIn
        rw [if_neg h2, if_pos h4]
      · have h5 : stPH t = false := Bool.eq_false_iff.2 fun e => h4 ((stPH_iff t).1 e)
        rw [h5, if_neg Bool.false_ne_true, if_neg Bool.false_ne_true]
        have i := ih hr
        generalize closeC isPH stPH (r ++ [1]) = n at i ⊢
        cases n with
        | zero =>
          show lineIn ((t :: r).drop 0) = false
          rw [List.drop_zero] at i ⊢
          unfold lineIn
          rw [if_neg h2, if_neg h4]
          exact i
        | succ n => exact i
theorem li_drop : ∀ ts : List Int, GoodTs ts → liIn (ts.drop (closeC isLi stLi (ts ++ [1]))) = false ∧ (∀ n, closeC isLi stLi (ts ++ [1]) = n + 1 → lineIn (ts.drop (n + 1)) = false) := by
  intro ts
  induction ts with
  | nil => intro _; exact ⟨rfl, fun n h => by cases h⟩
  | cons t r ih =>
    intro ⟨h, hr⟩
    rw [List.cons_append, closeC_step _ _ _ (by simp)]
    by_cases h2 : t = 9
    · have h3 : isLi t = true := by rw [h2]; rfl
      rw [h3, Bool.not_true, Bool.and_false, if_neg Bool.false_ne_true, if_pos rfl]
      obtain ⟨a, b⟩ := h (.inr (by rw [h2]; rfl))
      exact ⟨b h2, fun n hn => by cases hn; exact a⟩
    · have h3 : isLi t = false := by unfold isLi; rw [beq_eq_false_iff_ne]; exact h2
      rw [h3, Bool.not_false, Bool.and_true]
      by_cases h4 : t = 7 ∨ t = 8
      · have h5 : stLi t = true := by unfold stLi; rcases h4 with rfl | rfl <;> rfl
        rw [h5, if_pos rfl]
        refine ⟨?_, fun n hn => by cases hn⟩
        show liIn (t :: r) = false
        unfold liIn
        rw [if_pos h4]
      · have h5 : stLi t = false := by unfold stLi; rw [Bool.or_eq_false_iff, beq_eq_false_iff_ne, beq_eq_false_iff_ne]; omega
        rw [h5, if_neg Bool.false_ne_true, if_neg Bool.false_ne_true]
        obtain ⟨i, j⟩ := ih hr
        generalize closeC isLi stLi (r ++ [1]) = n at i j ⊢
        cases n with
        | zero =>
          refine ⟨?_, fun n hn => by cases hn⟩
          show liIn (t :: r) = false
          rw [List.drop_zero] at i
          unfold liIn
          rw [if_neg h4, if_neg h2]
          exact i
        | succ n => exact ⟨i, fun m hm => by
            have hm : n + 2 = m + 1 := hm
            obtain rfl : m = n + 1 := by omega
            exact j n rfl⟩
def lastP (p : Bool) : List PN → Bool
  | [] => p
  | k :: r => lastP (k.tag == 0) r
theorem lastP_snoc : ∀ (ks : List PN) (p : Bool) (k : PN), lastP p (ks ++ [k]) = (k.tag == 0)
  | [], _, _ => rfl
  | x :: ks, p, k => lastP_snoc ks (x.tag == 0) k
theorem norms_snoc (d : Int) (b l i : Bool) (k : PN) : ∀ (ks : List PN) (p : Bool), PN.norms d b l i p (ks ++ [k]) = (PN.norms d b l i p ks && (!(lastP p ks && k.tag == 0) && PN.norm d b l i k))
  | [], p => by
    show PN.norms d b l i p [k] = _
    simp only [PN.norms, lastP, Bool.and_true, Bool.true_and]
  | x :: ks, p => by
    rw [List.cons_append]
    simp only [PN.norms, lastP]
    rw [norms_snoc d b l i k ks (x.tag == 0)]
    simp only [Bool.and_assoc]
theorem lastP_text {ks : List PN} (h : lastText ks = none) : lastP false ks = false := by
  rcases List.eq_nil_or_concat ks with rfl | ⟨l, k, rfl⟩
  · rfl
  · rw [List.concat_eq_append] at h ⊢
    rw [lastText_snoc] at h
    rw [lastP_snoc]
    split at h
    · cases h
    · rename_i hk; rw [beq_eq_false_iff_ne]; exact hk
mutual
def PN.bulk (T : Nat) : PN → Bool
  | .mk _ a s ks => decide (s.size ≤ T) && decide (a.length ≤ 8192) && PN.bulks T ks
def PN.bulks (T : Nat) : List PN → Bool
  | [] => true
  | k :: r => PN.bulk T k && PN.bulks T r
end
theorem PN.bulk_eq (T : Nat) (n : PN) : n.bulk T = (decide (n.text.size ≤ T) && decide (n.attrs.length ≤ 8192) && PN.bulks T n.kids) := by cases n; rfl
theorem PN.bulk_mk {T : Nat} {t : Int} {a : List AttrB} {s : ByteArray} {ks : List PN} (h1 : s.size ≤ T) (h2 : a.length ≤ 8192) (h3 : PN.bulks T ks = true) : (PN.mk t a s ks).bulk T = true := by
  show (decide (s.size ≤ T) && decide (a.length ≤ 8192) && PN.bulks T ks) = true
  rw [decide_eq_true h1, decide_eq_true h2, h3]
  rfl
theorem PN.bulks_iff {T : Nat} {l : List PN} : PN.bulks T l = true ↔ ∀ k ∈ l, k.bulk T = true := by
  induction l with
  | nil => simp [PN.bulks]
  | cons k r ih => simp only [PN.bulks, Bool.and_eq_true, ih, List.mem_cons, forall_eq_or_imp]
theorem PN.bulk_mono {T M : Nat} (h : T ≤ M) : ∀ n : PN, n.bulk T = true → n.bulk M = true := by
  refine PN.induct _ fun n ih hn => ?_
  rw [PN.bulk_eq] at hn ⊢
  simp only [Bool.and_eq_true, decide_eq_true_eq] at hn ⊢
  exact ⟨⟨Nat.le_trans hn.1.1 h, hn.1.2⟩, PN.bulks_iff.2 fun k hk => ih k hk (PN.bulks_iff.1 hn.2 k hk)⟩
theorem PN.bulks_mono {T M : Nat} (h : T ≤ M) {l : List PN} (hl : PN.bulks T l = true) : PN.bulks M l = true := PN.bulks_iff.2 fun k hk => PN.bulk_mono h k (PN.bulks_iff.1 hl k hk)
def KidsOk (T : Nat) (d : Int) (ts : List Int) (f : ZF) : Prop := PN.norms d (boxT f.tag) (lineIn ts) (liIn ts) false f.kids = true ∧ PN.bulks T f.kids = true
def ZN (T : Nat) : ZS → Prop
  | [] => False
  | [f] => f.tag = 1 ∧ f.attrs = [] ∧ KidsOk T 1 [] f
  | f :: g :: r => (clsT f.tag = 2 ∨ clsT f.tag = 3 ∨ clsT f.tag = 4) ∧ attrsMay f.attrs = true ∧ f.attrs.length ≤ 8192 ∧ (g :: r).length ≤ 40 ∧
      (clsT f.tag = 2 ∨ clsT f.tag = 3 → lineIn (tsZ (g :: r)) = false ∧ (f.tag = 9 → liIn (tsZ (g :: r)) = false)) ∧ KidsOk T (((g :: r).length : Int) + 1) (f.tag :: tsZ (g :: r)) f ∧ ZN T (g :: r)
theorem ZN.ne {T : Nat} : ∀ {z : ZS}, ZN T z → z ≠ []
  | [], h => h.elim
  | _ :: _, _ => by simp
theorem ZN.tags {T : Nat} : ∀ {z : ZS}, ZN T z → tagsZ z = tsZ z ++ [1] ∧ GoodTs (tsZ z)
  | [], h => h.elim
  | [f], h => ⟨by show [f.tag] = _; rw [h.1]; rfl, trivial⟩
  | f :: g :: r, h => by
    obtain ⟨_, _, _, _, h1, _, h2⟩ := h
    obtain ⟨i, j⟩ := ZN.tags h2
    refine ⟨?_, h1, j⟩
    rw [tsZ_cons, List.cons_append, ← i]
    rfl
theorem ZN.kids {T : Nat} : ∀ {f : ZF} {r : ZS}, ZN T (f :: r) → KidsOk T ((r.length : Int) + 1) (tsZ (f :: r)) f
  | _, [], h => h.2.2
  | _, _ :: _, h => h.2.2.2.2.2.1
theorem ZN.put {T M : Nat} {f : ZF} {ks : List PN} : ∀ {r : ZS}, ZN T (f :: r) → (∀ {z : ZS}, ZN T z → ZN M z) → KidsOk M ((r.length : Int) + 1) (tsZ (f :: r)) ⟨f.tag, f.attrs, ks⟩ → ZN M (⟨f.tag, f.attrs, ks⟩ :: r)
  | [], h, _, hk => ⟨h.1, h.2.1, hk⟩
  | _ :: _, h, hm, hk => ⟨h.1, h.2.1, h.2.2.1, h.2.2.2.1, h.2.2.2.2.1, hk, hm h.2.2.2.2.2.2⟩
theorem ZN.mono {T M : Nat} (h : T ≤ M) : ∀ {z : ZS}, ZN T z → ZN M z
  | [], hz => hz.elim
  | [f], hz => ⟨hz.1, hz.2.1, hz.2.2.1, PN.bulks_mono h hz.2.2.2⟩
  | f :: g :: r, hz => ⟨hz.1, hz.2.1, hz.2.2.1, hz.2.2.2.1, hz.2.2.2.2.1, ⟨hz.2.2.2.2.2.1.1, PN.bulks_mono h hz.2.2.2.2.2.1.2⟩, ZN.mono h hz.2.2.2.2.2.2⟩
theorem node_norm {f : ZF} {ts : List Int} {d : Int} {box : Bool} (hc : clsT f.tag = 2 ∨ clsT f.tag = 3 ∨ clsT f.tag = 4) (ha : attrsMay f.attrs = true) (hd : d ≤ 40)
    (hl : clsT f.tag = 2 ∨ clsT f.tag = 3 → lineIn ts = false ∧ (f.tag = 9 → liIn ts = false)) (hk : PN.norms (d + 1) (boxT f.tag) (lineIn (f.tag :: ts)) (liIn (f.tag :: ts)) false f.kids = true) : PN.norm d box (lineIn ts) (liIn ts) f.node = true := by
  rw [PN.norm_eq]
  show (decide (d ≤ 40) && (if clsT f.tag = 0 then false else if clsT f.tag = 1 then textOk box f.node
      else if clsT f.tag = 5 then (⟨#[]⟩ : ByteArray).size == 0 && attrsMay f.attrs && f.kids.isEmpty
      else if clsT f.tag = 4 then (⟨#[]⟩ : ByteArray).size == 0 && attrsMay f.attrs && PN.norms (d + 1) false (lineIn ts) (liIn ts) false f.kids
      else !(lineIn ts || f.tag == 9 && liIn ts) && ((⟨#[]⟩ : ByteArray).size == 0 && attrsMay f.attrs && PN.norms (d + 1) (clsT f.tag == 2) (clsT f.tag == 3 && f.tag != 9) (f.tag == 9 || liIn ts && f.tag != 7 && f.tag != 8) false f.kids))) = true
  rw [if_neg (by omega), if_neg (by omega), if_neg (by omega), ha, show ((⟨#[]⟩ : ByteArray).size == 0) = true from rfl, decide_eq_true hd]
  by_cases c4 : clsT f.tag = 4
  · rw [if_pos c4]
    obtain ⟨a, b⟩ := lineIn_inline (.inl c4) ts
    rw [a, b, show boxT f.tag = false by unfold boxT; rw [c4]; rfl] at hk
    rw [hk]; rfl
  · rw [if_neg c4]
    have hc2 : clsT f.tag = 2 ∨ clsT f.tag = 3 := by omega
    obtain ⟨a, b⟩ := lineIn_big hc2 ts
    obtain ⟨h1, h2⟩ := hl hc2
    rw [a, b] at hk
    have e9 : (f.tag == 9 && liIn ts) = false := by
      by_cases h9 : f.tag = 9
      · rw [h2 h9, Bool.and_false]
      · rw [show (f.tag == 9) = false from beq_eq_false_iff_ne.2 h9, Bool.false_and]
    rw [h1, e9, show PN.norms (d + 1) (clsT f.tag == 2) _ _ false f.kids = true from hk]
    rfl
theorem ZN.pop1 {T : Nat} : ∀ {z : ZS}, ZN T z → 2 ≤ z.length → ZN T (Go.Proofs.YtalaajbajgdglaaGreatDoor.pop1 z)
  | [], h, _ => h.elim
  | [_], _, h => by simp at h
  | f :: g :: r, h, _ => by
    obtain ⟨h1, h2, h3, h4, h5, ⟨h6, h6b⟩, h7⟩ := h
    obtain ⟨k1, k2⟩ := h7.kids
    refine ZN.put h7 (fun h => h) ⟨?_, ?_⟩
    · show PN.norms _ (boxT g.tag) _ _ false (g.kids ++ [f.node]) = true
      rw [norms_snoc, k1]
      have ht : (f.node.tag == 0) = false := by
        rw [beq_eq_false_iff_ne]
        intro e
        have e : f.tag = 0 := e
        rw [e] at h1
        rcases h1 with h1 | h1 | h1 <;> exact absurd h1 (by decide)
      rw [ht, Bool.and_false, Bool.not_false, Bool.true_and, Bool.true_and]
      have e : (((g :: r).length : Nat) : Int) = (r.length : Int) + 1 := by simp
      rw [e] at h6
      exact node_norm h1 h2 (by simp only [List.length_cons] at h4; omega) h5 h6
    · show PN.bulks T (g.kids ++ [f.node]) = true
      rw [PN.bulks_iff] at k2 ⊢
      intro k hk
      rcases List.mem_append.1 hk with hk | hk
      · exact k2 k hk
      · obtain rfl : k = f.node := by simpa using hk
        rw [PN.bulk_eq]
        simp only [Bool.and_eq_true, decide_eq_true_eq]
        exact ⟨⟨Nat.zero_le _, h3⟩, h6b⟩
theorem ZN.popN {T : Nat} : ∀ (n : Nat) {z : ZS}, ZN T z → n < z.length → ZN T (Go.Proofs.YtalaajbajgdglaaGreatDoor.popN n z)
  | 0, z, h, _ => h
  | n + 1, z, h, hn => ZN.popN n (h.pop1 (by omega)) (by have := pop1_len z; rw [if_pos (by omega)] at this; omega)
theorem tsZ_popN (n : Nat) {z : ZS} (h : n < z.length) : tsZ (popN n z) = (tsZ z).drop n := by
  unfold tsZ
  rw [popN_tags n z h, List.dropLast_eq_take, List.dropLast_eq_take, List.length_drop, List.drop_take]
  congr 1
  omega
theorem ZN.ahead {T : Nat} {z : ZS} (h : ZN T z) (t : Int) : ZN T (aheadZ t z) ∧ (lineT t = true → lineIn (tsZ (aheadZ t z)) = false) ∧ (t = 9 → liIn (tsZ (aheadZ t z)) = false) := by
  unfold aheadZ
  dsimp only
  have a1 : ZN T (if lineT t = true then closeZ isPH stPH z else z) ∧ (lineT t = true → lineIn (tsZ (if lineT t = true then closeZ isPH stPH z else z)) = false) := by
    split
    · rename_i hl
      have hlt := (closeZ_len isPH stPH z h.ne).2
      refine ⟨h.popN _ hlt, fun _ => ?_⟩
      unfold closeZ
      rw [tsZ_popN _ hlt]
      have := line_drop (tsZ z) h.tags.2
      rw [← h.tags.1] at this
      exact this
    · exact ⟨h, fun e => absurd e (by assumption)⟩
  obtain ⟨a1, a2⟩ := a1
  generalize (if lineT t = true then closeZ isPH stPH z else z) = z1 at a1 a2 ⊢
  split
  · rename_i h9
    have hlt := (closeZ_len isLi stLi z1 a1.ne).2
    obtain ⟨b1, b2⟩ := li_drop (tsZ z1) a1.tags.2
    rw [← a1.tags.1] at b1 b2
    refine ⟨a1.popN _ hlt, fun hl => ?_, fun _ => ?_⟩
    · unfold closeZ
      rw [tsZ_popN _ hlt]
      cases hn : closeC isLi stLi (tagsZ z1) with
      | zero => rw [List.drop_zero]; exact a2 hl
      | succ n => exact b2 n hn
    · unfold closeZ
      rw [tsZ_popN _ hlt]
      exact b1
  · exact ⟨a1, a2, fun e => absurd e (by assumption)⟩
theorem ZN.leaf {T M : Nat} {f : ZF} {r : ZS} (h : ZN T (f :: r)) (hm : T ≤ M) {k : PN} (h1 : PN.norm ((r.length : Int) + 1) (boxT f.tag) (lineIn (tsZ (f :: r))) (liIn (tsZ (f :: r))) k = true) (h2 : lastText f.kids = none ∨ k.tag ≠ 0) (h3 : k.bulk M = true) : ZN M (f.put k :: r) := by
  obtain ⟨k1, k2⟩ := h.kids
  refine ZN.put h (ZN.mono hm) ⟨?_, ?_⟩
  · show PN.norms _ (boxT f.tag) _ _ false (f.kids ++ [k]) = true
    rw [norms_snoc, k1, h1]
    have : (lastP false f.kids && k.tag == 0) = false := by
      rcases h2 with h2 | h2
      · rw [lastP_text h2, Bool.false_and]
      · rw [show (k.tag == 0) = false from beq_eq_false_iff_ne.2 h2, Bool.and_false]
    rw [this]; rfl
  · show PN.bulks M (f.kids ++ [k]) = true
    rw [PN.bulks_iff]
    intro x hx
    rcases List.mem_append.1 hx with hx | hx
    · exact PN.bulk_mono hm x (PN.bulks_iff.1 k2 x hx)
    · obtain rfl : x = k := by simpa using hx
      exact h3
theorem text_norm {d : Int} {box line li : Bool} {s : ByteArray} (hd : d ≤ 40) (h1 : s.size ≠ 0) (h2 : anewB s = s) (h3 : (box && s.data.toList.all blankB) = false) : PN.norm d box line li (.mk 0 [] s []) = true := by
  rw [PN.norm_eq]
  show (decide (d ≤ 40) && textOk box (.mk 0 [] s [])) = true
  unfold textOk
  show (decide (d ≤ 40) && (true && true && decide (s.size ≠ 0) && decide (anewB s = s) && !(box && s.data.toList.all blankB))) = true
  rw [h3, decide_eq_true hd, decide_eq_true h1, decide_eq_true h2]
  rfl
theorem ZN.text {T : Nat} {b : BZ} (h : ZN T b.z) {s : List UInt8} (hs : IsR s) (hne : s ≠ []) : ZN (T + s.length) (textZ s b).z := by
  obtain ⟨z, c⟩ := b
  have hM : ∀ {z : ZS}, ZN T z → ZN (T + s.length) z := ZN.mono (Nat.le_add_right _ _)
  match z, h with
  | [], h => exact h.elim
  | f :: r, h =>
    unfold textZ
    dsimp only
    split
    · exact hM h
    · rename_i hb
      have hb : (boxT f.tag && s.all blankB) = false := by simpa using hb
      split
      · rename_i k hk
        obtain ⟨ks, hks, hkt⟩ := lastText_some hk
        have hdl : f.kids.dropLast = ks := by rw [hks]; simp
        obtain ⟨k1, k2⟩ := h.kids
        rw [hks, norms_snoc] at k1
        simp only [Bool.and_eq_true] at k1
        obtain ⟨k1, k3, k4⟩ := k1
        rcases norm_is k4 with ⟨_, x, rfl, hx1, hx2⟩ | ⟨hne, _⟩
        · refine ZN.put h hM ⟨?_, ?_⟩
          · show PN.norms _ (boxT f.tag) _ _ false (f.kids.dropLast ++ [.mk 0 [] (bs (x.data.toList ++ s)) []]) = true
            rw [hdl, norms_snoc, k1]
            have e : (!(lastP false ks && (PN.mk 0 [] (bs (x.data.toList ++ s)) []).tag == 0)) = true := k3
            rw [e]
            rw [PN.norm_eq] at k4
            simp only [Bool.and_eq_true, decide_eq_true_eq] at k4
            have k5 : textOk (boxT f.tag) (.mk 0 [] x []) = true := k4.2
            refine text_norm k4.1 ?_ ?_ ?_
            · rw [bs_size, List.length_append]
              have : x.data.toList.length = x.size := rfl
              omega
            · exact ((IsR.of_anew hx2).app hs).anew
            · rw [bs_data, List.all_append]
              cases hbx : boxT f.tag with
              | false => rfl
              | true =>
                rw [hbx] at hb
                rw [Bool.true_and] at hb
                rw [hb, Bool.and_false, Bool.and_false]
          · show PN.bulks _ (f.kids.dropLast ++ [.mk 0 [] (bs (x.data.toList ++ s)) []]) = true
            rw [hdl]
            rw [hks] at k2
            rw [PN.bulks_iff] at k2 ⊢
            intro y hy
            rcases List.mem_append.1 hy with hy | hy
            · exact PN.bulk_mono (Nat.le_add_right _ _) y (k2 y (by simp [hy]))
            · obtain rfl : y = _ := by simpa using hy
              have := k2 (.mk 0 [] x []) (by simp)
              rw [PN.bulk_eq] at this
              simp only [Bool.and_eq_true] at this
              have h8 : x.size ≤ T := of_decide_eq_true this.1.1
              refine PN.bulk_mk ?_ (Nat.zero_le _) rfl
              rw [bs_size, List.length_append]
              have e : x.data.toList.length = x.size := rfl
              omega
        · exact absurd hkt hne
      · rename_i hl
        split
        · rename_i hr
          obtain ⟨_, hr⟩ := roomB_at hr
          refine ZN.leaf h (Nat.le_add_right _ _) ?_ (.inl hl) ?_
          · refine text_norm (by simp only [List.length_cons] at hr; omega) ?_ hs.anew ?_
            · rw [bs_size]
              have := List.length_pos_iff.2 hne
              omega
            · rw [bs_data]; exact hb
          · exact PN.bulk_mk (by rw [bs_size]; omega) (Nat.zero_le _) rfl
        · exact hM h
theorem cls_tag {t : Int} (h : 1 ≤ t ∧ t ≤ 16) : clsT t = 2 ∨ clsT t = 3 ∨ clsT t = 4 ∨ clsT t = 5 :=
  cls_cases (by intro e; unfold clsT at e; repeat' split at e <;> omega) (by omega)
theorem ZN.token {T : Nat} {b : BZ} (h : ZN T b.z) {t : Tk} (ht : TkGood 8192 t) : ZN (T + t.text.length) (tokenZ t b).z := by
  have hM : ∀ {z : ZS}, ZN T z → ZN (T + t.text.length) z := ZN.mono (Nat.le_add_right _ _)
  unfold tokenZ
  split
  · rename_i hk
    exact h.text (ht.text hk).1 (ht.text hk).2
  · split
    · exact hM h
    · rename_i tag hf
      have hft := findT_tag hf
      split
      · exact hM (h.popN _ (closeZ_len _ _ _ h.ne).2)
      · split
        · rename_i hr
          obtain ⟨_, hr⟩ := roomB_at hr
          obtain ⟨a1, a2, a3⟩ := h.ahead tag
          unfold openZ
          generalize aheadZ tag b.z = z at a1 a2 a3 hr ⊢
          split
          · rename_i c5
            refine hM ?_
            match z, a1, hr with
            | [], a1, _ => exact a1.elim
            | f :: r, a1, hr =>
              refine ZN.leaf (k := .mk tag t.attrs ⟨#[]⟩ []) a1 (Nat.le_refl _) ?_ (.inr (by show tag ≠ 0; omega)) ?_
              · rw [PN.norm_eq]
                show (decide ((r.length : Int) + 1 ≤ 40) && (if clsT tag = 0 then false else if clsT tag = 1 then _ else if clsT tag = 5 then (⟨#[]⟩ : ByteArray).size == 0 && attrsMay t.attrs && ([] : List PN).isEmpty else _)) = true
                rw [if_neg (by omega), if_neg (by omega), if_pos c5, ht.attrs, decide_eq_true (by simp only [List.length_cons] at hr; omega)]
                rfl
              · exact PN.bulk_mk (Nat.zero_le _) ht.len rfl
          · rename_i c5
            refine hM ?_
            match z, a1, a2, a3, hr with
            | [], a1, _, _, _ => exact a1.elim
            | f :: r, a1, a2, a3, hr =>
              refine ⟨by have := cls_tag hft; show clsT tag = 2 ∨ clsT tag = 3 ∨ clsT tag = 4; omega, ht.attrs, ht.len, hr, fun hc => ⟨a2 ?_, a3⟩, ⟨rfl, rfl⟩, a1⟩
              unfold lineT
              simp only [Bool.or_eq_true, beq_iff_eq]
              exact hc.symm
        · exact hM h
theorem ZN.run : ∀ (L : List Tk) {T : Nat} {b : BZ}, ZN T b.z → (∀ t ∈ L, TkGood 8192 t) → ZN (T + sumT L) (L.foldl (fun b t => tokenZ t b) b).z
  | [], T, b, h, _ => h
  | t :: L, T, b, h, hL => by
    have h1 := ZN.run L (h.token (hL t (by simp))) (fun t ht => hL t (by simp [ht]))
    rw [List.foldl_cons]
    have e : T + t.text.length + sumT L = T + sumT (t :: L) := by unfold sumT; rw [List.map_cons, List.sum_cons]; omega
    rw [e] at h1
    exact h1
theorem ZN.top {T : Nat} {z : ZS} (h : ZN T z) : ∃ f, popAll z = [f] ∧ topN z = .mk 1 [] ⟨#[]⟩ f.kids ∧ KidsOk T 1 [] f ∧ f.tag = 1 := by
  have hp := List.length_pos_iff.2 h.ne
  have h1 : ZN T (popAll z) := h.popN (z.length - 1) (by omega)
  have h2 : (popAll z).length = 1 := by have := popN_len (z.length - 1) z (by omega); unfold popAll; omega
  match hz : popAll z, h1, h2 with
  | [f], h1, _ =>
    refine ⟨f, rfl, ?_, h1.2.2, h1.1⟩
    unfold topN
    rw [hz]
    show PN.mk f.tag f.attrs ⟨#[]⟩ f.kids = _
    rw [h1.1, h1.2.1]
theorem host_norm {L : List UInt8} (hL : L.length ≤ 8192) : ∃ ks, hostZ (tokens L) = .mk 1 [] ⟨#[]⟩ ks ∧ PN.norms 1 true false false false ks = true ∧ PN.sizes ks + 1 ≤ 2000 ∧ PN.bulks 32768 ks = true := by
  obtain ⟨h1, h2⟩ := tokens_good hL
  have h0 : ZN 0 startZ.z := ⟨rfl, rfl, rfl, rfl⟩
  have h3 := (ZN.run (tokens L) h0 h1).mono (M := 32768) (by omega)
  obtain ⟨f, e1, e2, ⟨k1, k2⟩, e3⟩ := ZN.top h3
  have hok := runZ_ok (L := tokens L) (M := 131072) (fun t ht => ((tokens_small hL).2 t ht).1) (tokens L).length
  rw [List.take_length] at hok
  have h4 := hok.popN ((runZ (tokens L)).z.length - 1) (by have := List.length_pos_iff.2 hok.ne; omega)
  have h5 : (List.map (fun f : ZF => 1 + PN.sizes f.kids) (popN ((runZ (tokens L)).z.length - 1) (runZ (tokens L)).z)).sum ≤ (runZ (tokens L)).cnt := h4.sum
  have h6 : (runZ (tokens L)).cnt ≤ 2000 := h4.cnt
  have e1 : popN ((runZ (tokens L)).z.length - 1) (runZ (tokens L)).z = [f] := e1
  rw [e1] at h5
  simp only [List.map_cons, List.map_nil, List.sum_cons, List.sum_nil] at h5
  refine ⟨f.kids, e2, ?_, by omega, k2⟩
  rw [e3] at k1
  exact k1
end Go.Proofs.YtalaajbajgdglaaGreatDoor
namespace Go.Proofs.YtalaajbajgdglaaGreatDoor
open Go Go.RowKit Go.BigFrame We
theorem bulk_fair : ∀ n : PN, n.bulk 32768 = true → n.fair = true := by
  refine PN.induct _ fun n ih hl => ?_
  rw [PN.bulk_eq] at hl
  simp only [Bool.and_eq_true, decide_eq_true_eq] at hl
  rw [PN.fair_eq, decide_eq_true (by omega), Bool.true_and]
  have h2 := PN.bulks_iff.1 hl.2
  clear hl
  obtain ⟨t, a, s, ks⟩ := n
  simp only [PN.kids] at ih h2 ⊢
  induction ks with
  | nil => rfl
  | cons k r ih2 =>
    unfold PN.fairs
    rw [ih k (by simp) (h2 k (by simp)), ih2 (fun k hk => ih k (by simp [hk])) fun k hk => h2 k (by simp [hk])]
    rfl
structure Built (n : PN) : Prop where
  norm : PN.norms 1 true false false false n.kids = true
  size : PN.sizes n.kids + 1 ≤ 2000
  bulk : PN.bulks 32768 n.kids = true
  tag : n = .mk 1 [] ⟨#[]⟩ n.kids
theorem Built.of {L : List UInt8} (hL : L.length ≤ 8192) : Built (hostZ (tokens L)) := by
  obtain ⟨ks, h1, h2, h3, h4⟩ := host_norm hL
  rw [h1]
  exact ⟨h2, h3, h4, rfl⟩
theorem Built.fair {n : PN} (h : Built n) : n.fair = true := bulk_fair n (by
  rw [h.tag]
  exact PN.bulk_mk (Nat.zero_le _) (Nat.zero_le _) h.bulk)
theorem Built.nsize {n : PN} (h : Built n) : n.size = PN.sizes n.kids + 1 := by have := n.size_eq; omega
theorem cells4 {w : World} {bk : Nat} {c0 c1 c2 c3 : Value} {t : TypeId} (h : w.heap[bk]? = some (.cells #[c0, c1, c2, c3] t (0, 0))) : w.cell? ⟨bk, 0, none⟩ = some c0 ∧ w.cell? ⟨bk, 1, none⟩ = some c1 ∧ w.cell? ⟨bk, 2, none⟩ = some c2 ∧ w.cell? ⟨bk, 3, none⟩ = some c3 :=
  ⟨cellOf h (i := 0) (v := c0) rfl, cellOf h (i := 1) (v := c1) rfl, cellOf h (i := 2) (v := c2) rfl, cellOf h (i := 3) (v := c3) rfl⟩
theorem kid4 {w : World} {n : PN} {c0 c1 c2 : Value} {bk : Option Addr} {kl kc : Nat} (h : RdN w n (.agg #[c0, c1, c2, .slice bk kl kc])) {j : Nat} {k : PN} (hk : n.kids[j]? = some k) : ∃ b o sp, bk = some ⟨b, o, sp⟩ ∧ ∃ y1 y2 y3 y4, w.cell? ((⟨b, o, sp⟩ : Addr).add (j * 4)) = some (.int .i64 k.tag) ∧
    w.cell? ⟨((⟨b, o, sp⟩ : Addr).add (j * 4)).block, ((⟨b, o, sp⟩ : Addr).add (j * 4)).off + 1, none⟩ = some (.slice y1 k.attrs.length y2) ∧ w.cell? ⟨((⟨b, o, sp⟩ : Addr).add (j * 4)).block, ((⟨b, o, sp⟩ : Addr).add (j * 4)).off + 2, none⟩ = some (.string k.text) ∧
    w.cell? ⟨((⟨b, o, sp⟩ : Addr).add (j * 4)).block, ((⟨b, o, sp⟩ : Addr).add (j * 4)).off + 3, none⟩ = some (.slice y3 k.kids.length y4) ∧
    RdN w k (.agg #[.int .i64 k.tag, .slice y1 k.attrs.length y2, .string k.text, .slice y3 k.kids.length y4]) := by
  obtain ⟨av, kv, e, _, ka, kcap, rfl, h1, h2, h3, h4⟩ := h.open
  simp only [Value.agg.injEq, Array.mk.injEq, List.cons.injEq, Value.slice.injEq, and_true] at e
  obtain ⟨_, _, _, rfl, rfl, rfl⟩ := e
  cases bk with
  | none =>
    have h5 := (h3 rfl).1
    have h6 := (List.getElem?_eq_some_iff.1 hk).1
    omega
  | some a =>
    obtain ⟨b, o, sp⟩ := a
    obtain ⟨c0, c1, c2, c3, q0, q1, q2, q3, h5⟩ := h4 _ rfl j k hk
    obtain ⟨y1, y2, y3, y4, en⟩ := h5.shape
    cases en
    rw [add_later _ _ _ (by decide)] at q1 q2 q3
    exact ⟨b, o, sp, rfl, _, _, _, _, q0, q1, q2, q3, h5⟩
end Go.Proofs.YtalaajbajgdglaaGreatDoor
namespace Go.Proofs.YtalaajbajgdglaaGreatDoor
open Go
theorem IsR.split {c : UInt8} (hc : c.toNat < 128) : ∀ (n : Nat) (a b : List UInt8), a.length ≤ n → IsR (a ++ c :: b) → IsR a ∧ IsR b := by
  intro n
  induction n with
  | zero =>
    intro a b hl h
    obtain rfl : a = [] := List.eq_nil_of_length_eq_zero (by omega)
    exact ⟨IsR.nil, h.drop1 hc⟩
  | succ n ih =>
    intro a b hl h
    cases a with
    | nil => exact ⟨IsR.nil, h.drop1 hc⟩
    | cons x a =>
      obtain ⟨rs, hr, e⟩ := h
      cases rs with
      | nil => cases e
      | cons r rs =>
        obtain ⟨k, rfl, hk⟩ := valid_cases (hr r (by simp))
        have hX : IsR (rs.flatMap fun r => (Utf8.encode r).data.toList) := ⟨rs, fun x hx => hr x (by simp [hx]), rfl⟩
        rw [List.flatMap_cons] at e
        have hE : ∀ y ∈ (Utf8.encode (k : Int)).data.toList, k < 128 ∧ (Utf8.encode (k : Int)).data.toList = [y] ∨ 128 ≤ y.toNat := by
          intro y hy
          rw [encode_nat hk] at hy ⊢
          rcases encL_mem (n := k) (by omega) hy with ⟨h1, h2⟩ | h1
          · exact .inl ⟨h2, by rw [if_pos h2, h1]⟩
          · exact .inr h1
        have hlen := (encode_len (k : Int)).1
        generalize hE2 : (Utf8.encode (k : Int)).data.toList = E at e hE hlen
        rcases List.append_eq_append_iff.1 e with ⟨az, h1, h2⟩ | ⟨bs', h1, h2⟩
        · -- E = (x :: a) ++ az
          cases az with
          | nil =>
            rw [List.append_nil] at h1
            have h2 : c :: b = rs.flatMap fun r => (Utf8.encode r).data.toList := h2
            rw [← h2] at hX
            exact ⟨by rw [← h1, ← hE2]; exact IsR.one (hr _ (by simp)), hX.drop1 hc⟩
          | cons y az =>
            simp only [List.cons_append, List.cons.injEq] at h2
            obtain ⟨rfl, _⟩ := h2
            rcases hE c (by rw [h1]; simp) with ⟨_, h3⟩ | h3
            · rw [h3] at h1
              have := congrArg List.length h1
              simp at this
            · omega
        · -- x :: a = E ++ bs'
          have h2 : (rs.flatMap fun r => (Utf8.encode r).data.toList) = bs' ++ c :: b := h2
          rw [h2] at hX
          have hl2 : bs'.length ≤ n := by
            have := congrArg List.length h1
            rw [List.length_append, List.length_cons] at this
            simp only [List.length_cons] at hl
            omega
          obtain ⟨g1, g2⟩ := ih bs' b hl2 hX
          refine ⟨?_, g2⟩
          rw [h1, ← hE2]
          exact (IsR.one (hr _ (by simp))).app g1
theorem IsR.suffix {c : UInt8} (hc : c.toNat < 128) {l e : List UInt8} (h : IsR l) (hs : (c :: e) <:+ l) : IsR e := by
  obtain ⟨p, rfl⟩ := hs
  exact (IsR.split hc _ p e (Nat.le_refl _) h).2
theorem findEnd_sign {t : List UInt8} (ht : ∀ r : List UInt8, (62 :: r) <:+ t ++ r) : ∀ l, findEnd t l = [] ∨ (62 :: findEnd t l) <:+ l := by
  intro l
  induction l with
  | nil => exact .inl rfl
  | cons c q ih =>
    unfold findEnd
    split
    · rename_i hp
      obtain ⟨r, hr⟩ := List.isPrefixOf_iff_prefix.1 hp
      rw [← hr, List.drop_left' rfl]
      exact .inr (ht r)
    · exact ih.imp id fun h => h.trans (List.suffix_cons c q)
theorem note_sign {r e : List UInt8} (h : noteL r = some e) : e = [] ∨ (62 :: e) <:+ r := by
  unfold noteL at h
  split at h
  · cases h
    exact (findEnd_sign (t := [45, 45, 62]) (fun r => ⟨[45, 45], rfl⟩) (r.drop 4)).imp id fun h => h.trans (List.drop_suffix 4 r)
  · split at h
    · cases h
      exact (findEnd_sign (t := [62]) (fun r => ⟨[], rfl⟩) (r.drop 2)).imp id fun h => h.trans (List.drop_suffix 2 r)
    · cases h
theorem lexL_valid (N : Nat) : ∀ (n : Nat) (r raw : List UInt8) (a b : Nat), r.length ≤ n → IsR (raw ++ r) → ∀ t ∈ lexL N raw a b r, t.kind = 1 → IsR t.text := by
  have hfl : ∀ raw a b, IsR raw → ∀ t ∈ flushT raw a b, t.kind = 1 → IsR t.text := by
    intro raw a b hr t ht _
    unfold flushT at ht
    split at ht
    · cases ht
    · rw [List.mem_singleton.1 ht]; exact hr
  intro n
  induction n with
  | zero =>
    intro r raw a b hn hv
    obtain rfl : r = [] := List.eq_nil_of_length_eq_zero (by omega)
    rw [List.append_nil] at hv
    rw [lexL_nil]
    exact hfl raw a b hv
  | succ n ih =>
    intro r raw a b hn hv
    cases r with
    | nil => rw [List.append_nil] at hv; rw [lexL_nil]; exact hfl raw a b hv
    | cons c q =>
      simp only [List.length_cons] at hn
      have hch : (c ≠ 60 ∨ noteL (c :: q) = none ∧ tagL N (c :: q) = none) → ∀ t ∈ lexL N raw a b (c :: q), t.kind = 1 → IsR t.text := by
        intro h
        rw [lexL_char h]
        exact ih q (raw ++ [c]) _ _ (by omega) (by rw [List.append_assoc]; exact hv)
      by_cases hc : c = 60
      · subst hc
        obtain ⟨hraw, hq⟩ := IsR.split (c := 60) (by decide) _ raw q (Nat.le_refl _) hv
        have hcq : IsR (60 :: q) := (IsR.byte (c := 60) (by decide)).app hq
        cases hno : noteL (60 :: q) with
        | some e =>
          rw [lexL_note hno]
          have h2 := (noteL_suf hno).2
          simp only [List.length_cons] at h2
          refine ih e raw a b (by omega) (hraw.app ?_)
          rcases note_sign hno with rfl | hs
          · exact IsR.nil
          · exact hcq.suffix (by decide) hs
        | none =>
          cases ht : tagL N (60 :: q) with
          | none => exact hch (.inr ⟨hno, ht⟩)
          | some x =>
            obtain ⟨t, e⟩ := x
            rw [lexL_tag hno ht]
            have h2 := (tagL_len ht).2
            simp only [List.length_cons] at h2
            intro u hu
            rcases List.mem_append.1 hu with hu | hu
            · exact hfl raw a b hraw u hu
            · rcases List.mem_cons.1 hu with rfl | hu
              · exact fun e => absurd e (tagL_good ht).1
              · exact ih e [] a b (by omega) (hcq.suffix (c := 62) (by decide) ((tagL_suf ht).trans (List.drop_suffix 1 _))) u hu
      · exact hch (.inl hc)
theorem decT_valid {l : List UInt8} (h : IsR l) : (decT l).length ≤ l.length := by
  unfold decT
  rw [h.anew, bs_data]
  exact (decL_good _ l (Nat.le_refl _)).1
theorem tokens_sum {L : List UInt8} (h : IsR L) : sumT (tokens L) ≤ L.length := by
  have h1 := lexL_valid L.length L.length L [] 0 0 (Nat.le_refl _) h
  have h2 := (lexL_good L.length L.length L.length L [] 0 0 (Nat.le_refl _) (Nat.le_refl _)).2
  unfold tokens
  have key : ∀ l : List Tk, (∀ t ∈ l, t.kind = 1 → IsR t.text) → sumT (l.map Tk.fin) ≤ sumT l := by
    intro l
    induction l with
    | nil => intro _; exact Nat.le_refl _
    | cons t l ih =>
      intro hl
      have h3 := ih fun t ht => hl t (by simp [ht])
      unfold sumT at h3 ⊢
      simp only [List.map_cons, List.sum_cons]
      have : t.fin.text.length ≤ t.text.length := by
        unfold Tk.fin
        split
        · rename_i hk; exact decT_valid (hl t (by simp) hk)
        · exact Nat.le_refl _
      omega
  have h3 := key _ h1
  simp only [List.length_nil, Nat.zero_add] at h2
  omega
theorem host_bulk {L : List UInt8} (hL : L.length ≤ 8192) (hv : IsR L) : PN.bulks 8192 (hostZ (tokens L)).kids = true := by
  obtain ⟨h1, h2⟩ := tokens_good hL
  have h0 : ZN 0 startZ.z := ⟨rfl, rfl, rfl, rfl⟩
  have h3 := (ZN.run (tokens L) h0 h1).mono (M := 8192) (by have := tokens_sum hv; omega)
  obtain ⟨f, e1, e2, ⟨k1, k2⟩, e3⟩ := ZN.top h3
  have e4 : hostZ (tokens L) = .mk 1 [] ⟨#[]⟩ f.kids := e2
  rw [e4]
  exact k2
end Go.Proofs.YtalaajbajgdglaaGreatDoor
namespace Go.Proofs.YtalaajbajgdglaaGreatDoor
open Go Go.RowKit Go.BigFrame We
theorem ret_int_d {k : IntKind} {a b : Int} (h : a = b) : Ending.returned (.int k a) = .returned (.int k b) := by rw [h]

instance (w : World) : Nonempty (ExtOf w) := ⟨⟨w, Ext.refl w⟩⟩
def nodeVal (ptr : Nat → Nat) (i : Nat) : Option Nd → Value
  | some _ => .pointer (some ⟨ptr i, 0, none⟩)
  | none => .pointer none
def nodeVals (ptr : Nat → Nat) (l : List (Option Nd)) : List Value := l.mapIdx (nodeVal ptr)
structure TreeAt (w : World) (own : Ow) (ptr : Nat → Nat) (tb : Nat) (T : Tr) : Prop where
  head : ∃ nv, w.heap[tb]? = some (.cells #[.int .i64 T.cap, .int .i64 T.deep, .int .i64 T.count, nv] 90 (0, 0)) ∧ own tb = some (0, 0) ∧
    RowAt w own 94 1 (1, 0) nv T.nodes.length (nodeVals ptr T.nodes)
  node : ∀ i nd, T.nodes[i]? = some (some nd) → ∃ av kv, w.heap[ptr i]? = some (.cells #[.int .i64 nd.tag, av, .string nd.text, kv, .int .i64 nd.parent] 97 (0, 0)) ∧
    own (ptr i) = some (2, i) ∧ RowAt w own 104 2 (3, i) av nd.attrs.length (attrCells nd.attrs) ∧ RowAt w own 3 1 (4, i) kv nd.kids.length (nd.kids.map (Value.int .i64))
theorem TreeAt.keep {w w' : World} {own : Ow} {ptr : Nat → Nat} {tb : Nat} {T : Tr} (h : TreeAt w own ptr tb T) (k : Keep own w w') : TreeAt w' own ptr tb T := by
  constructor
  · obtain ⟨nv, h1, h2, h3⟩ := h.head
    exact ⟨nv, by rw [k tb (by simp [h2])]; exact h1, h2, h3.keep k⟩
  · intro i nd hi
    obtain ⟨av, kv, h1, h2, h3, h4⟩ := h.node i nd hi
    exact ⟨av, kv, by rw [k _ (by simp [h2])]; exact h1, h2, h3.keep k, h4.keep k⟩
theorem Tr.get_lt {T : Tr} {id : Int} {nd : Nd} (h : T.get? id = some nd) : 0 ≤ id ∧ id.toNat < T.nodes.length ∧ T.nodes[id.toNat]? = some (some nd) := by
  unfold Tr.get? at h
  split at h
  · cases h
  · have h' : T.nodes[id.toNat]? = some (some nd) := by
      cases hc : T.nodes[id.toNat]? with
      | none => rw [hc] at h; cases h
      | some x => rw [hc] at h; simpa using h
    exact ⟨by omega, (List.getElem?_eq_some_iff.1 h').1, h'⟩

theorem get_some {w : World} {own : Ow} {ptr : Nat → Nat} {tb : Nat} {T : Tr} (hT : TreeAt w own ptr tb T) {id : Int} {nd : Nd} (h : T.get? id = some nd) :
    Calls Tryz.prog 41 #[.pointer (some ⟨tb, 0, none⟩), .int .i64 id] w (RSame (.pointer (some ⟨ptr id.toNat, 0, none⟩)) w) := by
  obtain ⟨h0, hlt, hnd⟩ := Tr.get_lt h
  obtain ⟨i, rfl⟩ := Int.eq_ofNat_of_zero_le h0
  simp only [Int.toNat_natCast] at hlt hnd ⊢
  obtain ⟨nv, hb, _, hrow⟩ := hT.head
  obtain ⟨g, cap, rfl, hcell⟩ := hrow.cell (i := i) (x := .pointer (some ⟨ptr i, 0, none⟩)) (by simp [nodeVals, List.getElem?_mapIdx, hnd, nodeVal])
  obtain ⟨_, _, e1, e2, e3⟩ := hrow.len
  cases e1
  have c3 := cellOf hb (i := 3) rfl
  unfold maxLen at e3
  clear hb hrow hT hnd h h0
  go_enter Tryz.func41, Tryz.ntmps41
  go_wp2
  go_ret
  exact ⟨rfl, rfl⟩
theorem room_any_d {w : World} {own : Ow} {ptr : Nat → Nat} {tb : Nat} {T : Tr} (hT : TreeAt w own ptr tb T) (hs : Small T) (n : Int) (h0 : 0 ≤ n) (h1 : n ≤ 100000000) : Calls Tryz.prog 44 #[.pointer (some ⟨tb, 0, none⟩), .int .i64 n] w (RBool (decide (n ≤ T.cap - T.count)) w) := by
  obtain ⟨nv, hb, _⟩ := hT.head
  have c := cellOf hb (i := 0) rfl
  have c' := cellOf hb (i := 2) rfl
  clear hb
  have d := fun u : ExtOf w => u.ext.cell c
  have d' := fun u : ExtOf w => u.ext.cell c'
  have b1 := hs.cap0
  have b2 := hs.cap1
  have b3 := hs.count0
  have b4 := hs.count1
  have b5 : IntKind.i64.wrap (T.cap - T.count) = T.cap - T.count := IntWalk.i64_in _ (by omega)
  go_enter Tryz.func44, Tryz.ntmps44
  go_wp2_with fail
  refine wp_region_ext (by kernel_rfl) (by kernel_rfl) ?_
  repeat (go_big_quiet_step (fail))
  refine wpQuiet_nil ?_
  rintro _ ⟨u, rfl⟩
  go_wp2
  go_ret
  exact ⟨rfl, u.ext⟩
theorem element_yes (n : Int) (h0 : 1 ≤ n) (h1 : n ≤ 16) (w : World) : Calls Tryz.prog 79 #[.int .i64 n] w (RSame (.bool true) w) := by
  go_enter Tryz.func79, Tryz.ntmps79
  go_wp2
  go_ret
  exact ⟨rfl, rfl⟩
theorem element_no (n : Int) (h : ¬ (1 ≤ n ∧ n ≤ 16)) (w : World) : Calls Tryz.prog 79 #[.int .i64 n] w (RSame (.bool false) w) := by
  by_cases h0 : 1 ≤ n
  · have h1 : ¬ n ≤ 16 := fun h1 => h ⟨h0, h1⟩
    clear h
    go_enter Tryz.func79, Tryz.ntmps79
    go_wp2
    go_ret
    exact ⟨rfl, rfl⟩
  · clear h
    go_enter Tryz.func79, Tryz.ntmps79
    go_wp2
    go_ret
    exact ⟨rfl, rfl⟩
def RRow (e size n : Nat) (xs : List Value) (w : World) (en : Ending) (w' : World) : Prop := ∃ v, en = .returned v ∧ RowIn w' w.heap.size e size v n xs ∧ Ext w w'
theorem infoI : (Tryz.prog.info? 3).map (fun i => (i.zero, i.size, i.bytes)) = some (some (.int .i64 0), 1, 8) := by kernel_rfl
theorem infoP : (Tryz.prog.info? 94).map (fun i => (i.zero, i.size, i.bytes)) = some (some (.pointer none), 1, 8) := by kernel_rfl

theorem cloneA_any {v : Value} {n : Nat} {xs : List Value} {w : World} (h : RowRd w 2 v n xs) (hn : n ≤ 60000) (h1 : ∀ u ∈ xs, u.oneCell' = true) :
    Calls Tryz.prog 48 #[v] w (RRow 104 2 n xs w) := by
  obtain ⟨hl, ao, cap, rfl, hcap, hnone, hc⟩ := h
  have he := fun (w : World) (a : Option Addr) (n c : Nat) => Lib.run_eql_slice_nil (P := Tryz.prog) w 23 104 a n c 0 0 Tryz.underlying23
  cases ao with
  | none =>
    obtain ⟨rfl, rfl⟩ := hnone rfl
    obtain rfl : xs = [] := List.eq_nil_of_length_eq_zero (by simpa using hl)
    clear hc hnone hl h1 hn
    go_enter Tryz.func48, Tryz.ntmps48
    go_wp2
    go_ret
    exact ⟨_, rfl, ⟨by simp, .inl ⟨rfl, _, rfl⟩⟩, Ext.refl _⟩
  | some a =>
    have HC := qh (hc a rfl)
    clear hc hnone
    rcases Nat.eq_zero_or_pos n with rfl | hpos
    · obtain rfl : xs = [] := List.eq_nil_of_length_eq_zero (by simpa using hl)
      clear HC hl h1 hn
      go_enter Tryz.func48, Tryz.ntmps48
      go_wp2
      go_ret
      exact ⟨_, rfl, ⟨by simp, .inl ⟨rfl, _, rfl⟩⟩, (Ext.refl _).alloc _⟩
    · obtain ⟨i0, hi, hz0, hz1, hz2⟩ := info_parts infoA
      have Hi := qh hi
      have Hz0 := qh hz0
      have Hz1 := qh hz1
      have Hz2 := qh hz2
      have H1 := qh h1
      have HL := qh hl
      have HN := qh hn
      clear hi hz0 hz1 hz2 h1 hl hn
      go_enter Tryz.func48, Tryz.ntmps48
      go_wp2_with (at_builtin; refine wpList_append_grows _ rfl _ _ 23 rfl 104 i0 (.agg #[.string ByteArray.empty, .string ByteArray.empty]) 2 32 Tryz.underlying23 Hi.out Hz0.out Hz1.out Hz2.out rfl (by decide) (some ⟨w.heap.size, 0, none⟩) 0 0 [] rfl (by simp) (by simp) (by simp) a n cap xs rfl HL.out ?c2 H1.out (by omega) ?c3 ?c4 ?_)
      case c2 =>
        intro j u hj
        have hcj := HC.out j u hj
        exact (Below.cell ((Ext.refl w).alloc _) (World.block_lt_of_cell? w _ hcj)).trans hcj
      case c3 => have := HN.out; unfold maxLen; omega
      case c4 => have := HN.out; omega
      intro v' w1 hown hg
      have hb : Ext w w1 := ((Ext.refl _).alloc _).grown hg (by simp)
      clear hg
      go_wp2
      go_ret
      refine ⟨_, rfl, ?_, hb⟩
      have hr := RowP.of_owns hown
      exact RowP.imp hr (fun g _ (hg : w.heap.size + 1 ≤ g) => Nat.le_of_succ_le hg)
theorem TreeAt.at {w : World} {own : Ow} {ptr : Nat → Nat} {tb : Nat} {T : Tr} (hT : TreeAt w own ptr tb T) {i : Nat} {nd : Nd} (h : T.nodes[i]? = some (some nd)) :
    ∃ g cap av kv, w.cell? ⟨tb, 3, none⟩ = some (.slice (some ⟨g, 0, none⟩) T.nodes.length cap) ∧ w.cell? ⟨g, i, none⟩ = some (.pointer (some ⟨ptr i, 0, none⟩)) ∧
      w.heap[ptr i]? = some (.cells #[.int .i64 nd.tag, av, .string nd.text, kv, .int .i64 nd.parent] 97 (0, 0)) := by
  obtain ⟨nv, hb, _, hrow⟩ := hT.head
  obtain ⟨g, cap, rfl, hcell⟩ := hrow.cell (i := i) (x := .pointer (some ⟨ptr i, 0, none⟩)) (by simp [nodeVals, List.getElem?_mapIdx, h, nodeVal])
  obtain ⟨av, kv, h1, _⟩ := hT.node i nd h
  exact ⟨g, cap, av, kv, cellOf hb rfl, hcell, h1⟩
theorem TreeAt.nv {w : World} {own : Ow} {ptr : Nat → Nat} {tb : Nat} {T : Tr} (hT : TreeAt w own ptr tb T) {g cap : Nat} {i : Nat} {nd : Nd} (h : T.nodes[i]? = some (some nd))
    (hc : w.cell? ⟨tb, 3, none⟩ = some (.slice (some ⟨g, 0, none⟩) T.nodes.length cap)) : w.cell? ⟨g, i, none⟩ = some (.pointer (some ⟨ptr i, 0, none⟩)) := by
  obtain ⟨g', cap', _, _, h1, h2, _⟩ := hT.at h
  rw [hc] at h1
  cases h1
  exact h2
def up1 (d : Nat → Nat) (v : Value) : Nat := if intOf v < 0 then 0 else d (intOf v).toNat + 1

theorem up1_nat (d : Nat → Nat) (p : Nat) : up1 d (.int .i64 (p : Int)) = d p + 1 := by
  show (if (p : Int) < 0 then 0 else d ((p : Int)).toNat + 1) = d p + 1
  rw [if_neg (by omega), Int.toNat_natCast]
theorem up1_neg (d : Nat → Nat) : up1 d (.int .i64 (-1)) = 0 := rfl

theorem Depth_some {w : World} {own : Ow} {ptr : Nat → Nat} {tb : Nat} {T : Tr} (hT : TreeAt w own ptr tb T) {d : Nat → Nat} (hw : WF T d) {i : Nat} {nd : Nd} (h : T.nodes[i]? = some (some nd)) :
    Calls Tryz.prog 43 #[.pointer (some ⟨tb, 0, none⟩), .int .i64 i] w (RSame (.int .i64 (d i)) w) := by
  obtain ⟨g, cap, av, kv, c3, cn, cb⟩ := hT.at h
  have cp := cellOf cb (i := 4) (v := .int .i64 nd.parent) rfl
  have hlt := (List.getElem?_eq_some_iff.1 h).1
  have hlen := hw.small.len
  have HG := qh (Tr.get_of h)
  have HW := qh hw
  have HC := qh c3
  have HN := qh h
  clear cb h hw
  go_enter Tryz.func43, Tryz.ntmps43
  go_wp2_with (go_at_call 41; refine (get_some hT HG.out).mono ?_; rintro e w' ⟨rfl, rfl⟩)
  go_loop [5, 6] (fun v a => ∃ (j : Nat) (jd : Nd) (c : Nat), T.nodes[j]? = some (some jd) ∧ a = .int .i64 jd.parent ∧ v = .int .i64 c ∧ c + d j = d i ∧ c ≤ 40) (fun _ a => up1 d a)
  case atStart => exact ⟨i, nd, 0, HN.out, rfl, rfl, by omega, by omega⟩
  case round =>
    obtain ⟨j, jd, c, hj, rfl, rfl, hcd, hc40⟩ := hrel
    have HJ := qh hj
    have HCD := qh hcd
    clear hcd hj
    rcases HW.out.up j jd HJ.out with ⟨h0, h1⟩ | ⟨p, pd, h0, h1, h2, h3⟩
    · have hneg : jd.parent < 0 := by omega
      have H0 := qh h0
      have H1 := qh h1
      clear h0 h1
      go_wp2
      go_ret
      exact ⟨ret_int_d (by have := HCD.out; have := H1.out; omega), rfl⟩
    · obtain ⟨g', cap', av', kv', c3', cn', cb'⟩ := hT.at h1
      have cn'' := hT.nv h1 HC.out
      have cp' := cellOf cb' (i := 4) (v := .int .i64 pd.parent) rfl
      have hlt' := (List.getElem?_eq_some_iff.1 h1).1
      have H1 := qh h1
      have H2 := qh h2
      have hdeep := HW.out.deep i nd HN.out
      have hd1 := HW.out.small.deep1
      have hc39 : c ≤ 39 := by have := HCD.out; omega
      clear h1 h2 h3 cb' c3' cn' hdeep hd1
      rw [h0]
      clear h0
      go_wp2
      go_round
      case rel => exact ⟨p, pd, c + 1, H1.out, rfl, by go_num, by have := HCD.out; have := H2.out; omega, by omega⟩
      case measure =>
        have hu := HW.out.up p pd H1.out
        rcases hu with ⟨q0, q1⟩ | ⟨q, qd, q0, q1, q2, q3⟩
        · rw [q0, up1_neg, up1_nat]; omega
        · rw [q0, up1_nat, up1_nat]; omega

theorem within_any {w : World} {own : Ow} {ptr : Nat → Nat} {tb : Nat} {T : Tr} (hT : TreeAt w own ptr tb T) {d : Nat → Nat} (hw : WF T d) {i : Nat} {nd : Nd} (h : T.nodes[i]? = some (some nd)) {outer : Int} (ho : 0 ≤ outer) :
    Calls Tryz.prog 80 #[.pointer (some ⟨tb, 0, none⟩), .int .i64 i, .int .i64 outer] w (RSame (.bool (T.within i outer)) w) := by
  obtain ⟨g, cap, av, kv, c3, cn, cb⟩ := hT.at h
  have hlt := (List.getElem?_eq_some_iff.1 h).1
  have hlen := hw.small.len
  have hd0 : d i < 50 := by have := hw.deep i nd h; have := hw.small.deep1; omega
  have HW := qh hw
  have HC := qh c3
  have HN := qh h
  clear cb h hw cn
  go_enter Tryz.func80, Tryz.ntmps80
  go_wp2_with fail
  go_loop [1] (fun a => a = .int .i64 (-1) ∧ T.within i outer = false ∨ ∃ (j : Nat) (jd : Nd) (f : Nat), T.nodes[j]? = some (some jd) ∧ a = .int .i64 j ∧ d j < f ∧ T.within i outer = isIn T outer f j) (fun a => up1 d a)
  case atStart => exact .inr ⟨i, nd, 50, HN.out, rfl, hd0, rfl⟩
  case round =>
    rcases hrel with ⟨rfl, hno⟩ | ⟨j, jd, f, hj, rfl, hf, hin⟩
    · have HO := qh hno
      clear hno
      have hne : ((-1 : Int) == outer) = false := by simp; omega
      go_wp2
      go_ret
      exact ⟨by rw [HO.out]; rfl, rfl⟩
    · have HJ := qh hj
      have HI := qh hin
      have hltj := (List.getElem?_eq_some_iff.1 hj).1
      clear hin hj
      by_cases he : (j : Int) = outer
      · have HE := qh he
        have hb : ((j : Int) != outer) = false := by simp [he]
        have hb' : ((j : Int) == outer) = true := by simp [he]
        clear he
        go_wp2
        go_ret
        refine ⟨?_, rfl⟩
        rw [HI.out]
        cases f with
        | zero => omega
        | succ f => unfold isIn; rw [if_neg (by omega), if_pos HE.out]; rfl
      · have hb : ((j : Int) != outer) = true := by simpa using he
        have HE := qh he
        clear he
        obtain ⟨g', cap', av', kv', c3', cn', cb'⟩ := hT.at HJ.out
        have cn'' := hT.nv HJ.out HC.out
        have cp' := cellOf cb' (i := 4) (v := .int .i64 jd.parent) rfl
        clear cb' c3' cn'
        go_wp2
        go_round
        case rel =>
          cases f with
          | zero => omega
          | succ f =>
            have hI := HI.out
            unfold isIn at hI
            rw [if_neg (by omega), if_neg HE.out, Tr.get_of HJ.out] at hI
            rcases HW.out.up j jd HJ.out with ⟨h3, h4⟩ | ⟨p, pd, h3, h4, h5, h6⟩
            · left
              simp only [h3] at hI
              exact ⟨by rw [h3], by rw [hI]; cases f <;> simp [isIn]⟩
            · right
              simp only [h3] at hI
              exact ⟨p, pd, f, h4, by rw [h3], by omega, hI⟩
        case measure =>
          rcases HW.out.up j jd HJ.out with ⟨h3, h4⟩ | ⟨p, pd, h3, h4, h5, h6⟩
          · rw [h3, up1_neg, up1_nat]; omega
          · rw [h3, up1_nat, up1_nat]; omega
theorem fold_le (F : Int → Int) (b : Int) (h1 : ∀ k, F k ≤ b) (h0 : 0 ≤ b) : ∀ (l : List Int) (z : Int), 0 ≤ z → z ≤ b → 0 ≤ l.foldl (fun h k => max h (F k)) z ∧ l.foldl (fun h k => max h (F k)) z ≤ b := by
  intro l
  induction l with
  | nil => intro z hz hb; exact ⟨hz, hb⟩
  | cons k r ih =>
    intro z hz hb
    have := h1 k
    exact ih _ (show 0 ≤ max z (F k) by omega) (show max z (F k) ≤ b by omega)
theorem Tr.hgt_le (T : Tr) : ∀ (f : Nat) (id : Int), -1 ≤ T.hgt f id ∧ T.hgt f id ≤ f := by
  intro f
  induction f with
  | zero => intro id; simp [Tr.hgt]
  | succ f ih =>
    intro id
    unfold Tr.hgt
    split
    · omega
    · have := fold_le (fun k => T.hgt f k + 1) (f + 1) (fun k => by have := (ih k).2; omega) (by omega)
      rename_i nd _
      have := this nd.kids 0 (Int.le_refl 0) (by omega)
      constructor <;> push_cast <;> omega
theorem fold_snoc_d (F : Int → Int → Int) (l : List Int) (n : Nat) (k : Int) (h : l[n]? = some k) (z : Int) : (l.take (n + 1)).foldl F z = F ((l.take n).foldl F z) k := by
  obtain ⟨hlt, rfl⟩ := List.getElem?_eq_some_iff.1 h
  rw [List.take_succ_eq_append_getElem hlt, List.foldl_append]; rfl

theorem Height_fuel {w : World} {own : Ow} {ptr : Nat → Nat} {tb : Nat} {T : Tr} (hT : TreeAt w own ptr tb T) {d : Nat → Nat} (hw : WF T d) :
    ∀ (f i : Nat) (nd : Nd), T.nodes[i]? = some (some nd) → 41 ≤ d i + f → f ≤ 100 → Calls Tryz.prog 81 #[.pointer (some ⟨tb, 0, none⟩), .int .i64 i] w (RSame (.int .i64 (T.hgt f i)) w) := by
  intro f
  induction f with
  | zero => intro i nd h h1; have := hw.deep i nd h; have := hw.small.deep1; omega
  | succ f ih =>
    intro i nd h h1 h2
    obtain ⟨av, kv, cb, _, _, hk⟩ := hT.node i nd h
    obtain ⟨a, cap, rfl, e2, e3⟩ := hk.len
    have ck := cellOf cb (i := 3) (v := .slice a nd.kids.length cap) rfl
    have HG := qh (Tr.get_of h)
    have HW := qh hw
    have HN := qh h
    have IH := qh ih
    have hval : T.hgt (f + 1) i = nd.kids.foldl (fun h k => max h (T.hgt f k + 1)) 0 := by
      show (match T.get? i with | none => -1 | some nd => nd.kids.foldl (fun h k => max h (T.hgt f k + 1)) 0) = _
      rw [Tr.get_of h]
    have HV := qh hval
    unfold maxLen at e3
    clear cb hval ih
    by_cases he : nd.kids = []
    · have hz : nd.kids.length = 0 := by rw [he]; rfl
      rw [hz] at ck
      have HE := qh he
      clear he hz hk h hw h1 h2 e2 e3
      go_enter Tryz.func81, Tryz.ntmps81
      go_wp2_with (go_at_call 41; refine (get_some hT HG.out).mono ?_; rintro e w' ⟨rfl, rfl⟩)
      go_loop [6, 8, 19] (fun v k n => n = .int .i64 0 ∧ v = .int .i64 0) (fun _ _ n => 0)
      case atStart => exact ⟨rfl, rfl⟩
      case round =>
        obtain ⟨rfl, rfl⟩ := hrel
        go_wp2
        go_ret
        exact ⟨ret_int_d (by rw [HV.out, HE.out]; rfl), rfl⟩
    · obtain ⟨g, cap', e, _⟩ := hk.cell (i := 0) (x := .int .i64 (nd.kids.headD 0)) (by cases hh : nd.kids with | nil => exact absurd hh he | cons x r => simp)
      cases e
      have HK := qh hk
      clear he hk h hw
      go_enter Tryz.func81, Tryz.ntmps81
      go_wp2_with (go_at_call 41; refine (get_some hT HG.out).mono ?_; rintro e w' ⟨rfl, rfl⟩)
      go_loop [6, 8, 19] (fun v _ n => ∃ (k : Nat) (z : Int), k ≤ nd.kids.length ∧ n = .int .i64 k ∧ v = .int .i64 z ∧ 0 ≤ z ∧ z ≤ 200 ∧ z = (nd.kids.take k).foldl (fun h k => max h (T.hgt f k + 1)) 0) (fun _ _ n => nd.kids.length - (intOf n).toNat)
      case atStart => exact ⟨0, 0, Nat.zero_le _, rfl, rfl, by omega, by omega, by simp⟩
      case round =>
        obtain ⟨k, z, hk, rfl, rfl, z0, z1, hz⟩ := hrel
        have HZ := qh hz
        clear hz
        by_cases hlt : k < nd.kids.length
        · obtain ⟨x, hx⟩ : ∃ x, nd.kids[k]? = some x := ⟨nd.kids[k], by simp [hlt]⟩
          obtain ⟨g', cap', e, hc⟩ := HK.out.cell (i := k) (x := .int .i64 x) (by simp [hx])
          cases e
          obtain ⟨j, kd, h3, h4, h5, h6⟩ := HW.out.kid HN.out hx
          obtain ⟨q0, q1⟩ := T.hgt_le f j
          have HX := qh hx
          have H3 := qh h3
          have H4 := qh h4
          rw [h3] at hc
          clear hx h3 h4 h5
          go_wp2_with (go_at_call 81; refine (IH.out j kd H4.out (by omega) (by omega)).mono ?_; rintro e w' ⟨rfl, rfl⟩)
          all_goals
            go_round
            case rel => exact ⟨k + 1, _, by omega, by go_num, rfl, by omega, by omega, by rw [fold_snoc_d _ _ _ _ HX.out, ← HZ.out, H3.out]; try omega⟩
            case measure => simp [intOf]; omega
        · go_wp2
          go_ret
          refine ⟨ret_int_d ?_, rfl⟩
          rw [HV.out, HZ.out, List.take_of_length_le (by omega)]

theorem posOf_at {l : List Int} {k : Nat} {x : Int} (h : l[k]? = some x) (hno : x ∉ l.take k) : posOf l x = k := by
  obtain ⟨hlt, rfl⟩ := List.getElem?_eq_some_iff.1 h
  unfold posOf
  rw [if_pos (List.getElem_mem hlt)]
  have h2 : l = l.take k ++ l[k] :: l.drop (k + 1) := by rw [← List.drop_eq_getElem_cons hlt, List.take_append_drop]
  have : l.idxOf l[k] = k := by
    conv => lhs; arg 2; rw [h2]
    rw [List.idxOf_append, if_neg hno, List.idxOf_cons_self, List.length_take]
    omega
  rw [this]
theorem anew_any (s : ByteArray) (hs : s.size ≤ 100000) (w : World) : Calls Tryz.prog 46 #[.string s] w (RVal (.string (anewB s)) w) := by
  have h1 := run_runes_of_string (P := Tryz.prog) w 9 125 21 s Tryz.underlying9 Tryz.underlying125 Tryz.underlying21 (by have := size_runesFrom s s.size 0 #[]; simp at this; omega)
  have e1 : Conv.runesFrom s s.size 0 #[] = ((runeList s s.size 0).map (Value.int .i32)).toArray := by rw [runesFrom_eq]; simp
  have hz : anewB s = runesBytes (runeList s s.size 0) := rfl
  have HZ := qh hz
  rw [e1] at h1
  clear hz e1 hs
  generalize runeList s s.size 0 = l at *
  generalize hk : grownCap w (List.map (Value.int IntKind.i32) l).toArray.size 0 21 = K at *
  have hge := grownCap_ge w (List.map (Value.int IntKind.i32) l).toArray.size 0 21
  rw [hk] at hge
  clear hk
  generalize hC : (List.map (Value.int IntKind.i32) l).toArray ++ Array.replicate (K - (List.map (Value.int IntKind.i32) l).toArray.size) (Value.int IntKind.i32 0) = C at *
  have h2 := run_convert_runes (P := Tryz.prog) (w.drew.alloc (.cells C 21)) 125 9 21 ⟨w.heap.size, 0, none⟩ l.length K l (Nat.le_refl _) Tryz.underlying125 Tryz.underlying21 Tryz.underlying9
    (by
      intro j hj
      have hb : (w.drew.alloc (.cells C 21)).heap[w.heap.size]? = some (.cells C 21 (0, 0)) := heap_alloc_new w.drew _
      rw [Addr.add_lit, Nat.zero_add]
      refine cellOf hb ?_
      rw [← hC, Array.getElem?_append_left (by simpa using hj)]
      simp [hj])
  rw [List.take_length] at h2
  simp only [List.size_toArray, List.length_map] at h1
  clear hC hge
  have HH1 := qh h1
  have HH2 := qh h2
  clear h1 h2
  go_enter Tryz.func46, Tryz.ntmps46
  go_wp2_with fail
  rw [HH1.out]
  go_wp2_with fail
  have h2' : Sem.run Tryz.prog (convert 125 9 (Value.slice (some { block := w.heap.size, off := 0 }) l.length K)) (w.alloc (Obj.cells C 21)).drew = Result.ok (Value.string (runesBytes l)) (w.alloc (Obj.cells C 21)).drew := HH2.out
  rw [h2']
  clear h2'
  go_wp2_with fail
  go_ret
  exact ⟨by rw [HZ.out]; rfl, ((Ext.refl _).alloc _).drew⟩
theorem isNil_no (b : Nat) (w : World) : Calls Tryz.prog 77 #[.pointer (some ⟨b, 0, none⟩)] w (RSame (.bool false) w) := by
  go_enter Tryz.func77, Tryz.ntmps77
  go_wp2
  go_ret
  exact ⟨rfl, rfl⟩
theorem isNil_yes (w : World) : Calls Tryz.prog 77 #[.pointer none] w (RSame (.bool true) w) := by
  go_enter Tryz.func77, Tryz.ntmps77
  go_wp2
  go_ret
  exact ⟨rfl, rfl⟩
theorem freeOf_at {l : List (Option Nd)} {k : Nat} (h : l[k]? = some none) (hno : ∀ (j : Nat) (x : Option Nd), j < k → l[j]? = some x → x ≠ none) : freeOf' l = k := by
  obtain ⟨hlt, hk⟩ := List.getElem?_eq_some_iff.1 h
  unfold freeOf'
  have ha : l.any Option.isNone = true := by rw [List.any_eq_true]; exact ⟨none, List.mem_of_getElem? h, rfl⟩
  rw [if_pos ha]
  congr 1
  rw [List.findIdx_eq hlt]
  refine ⟨by rw [hk]; rfl, fun j hj => ?_⟩
  have := hno j (l[j]'(by omega)) hj (by simp)
  cases hx : l[j]'(by omega) with
  | none => exact absurd hx this
  | some y => rfl
theorem freeOf_no {l : List (Option Nd)} (hno : ∀ (j : Nat) (x : Option Nd), l[j]? = some x → x ≠ none) : freeOf' l = -1 := by
  unfold freeOf'
  rw [if_neg]
  rw [List.any_eq_true]
  rintro ⟨x, hx, hn⟩
  obtain ⟨j, hj⟩ := List.getElem?_of_mem hx
  cases x with
  | none => exact hno j none hj rfl
  | some y => cases hn

theorem free_any {p : Nat → Prop} {ptr : Nat → Nat} {v : Value} {l : List (Option Nd)} {w : World} (h : RowP w p 94 1 v l.length (nodeVals ptr l)) (hn : l.length ≤ 60000) :
    Calls Tryz.prog 76 #[v, .func (.func 77) #[] #[]] w (RSame (.int .i64 (freeOf' l)) w) := by
  obtain ⟨_, ao, cap, rfl, hcap, hnone, hc⟩ := h.rd
  have HN := qh hnone
  have HC := qh hc
  clear hnone hc hcap h
  go_enter Tryz.func76, Tryz.ntmps76
  go_wp2
  go_loop [5, 8] (fun _ n => ∃ k : Nat, k ≤ l.length ∧ n = .int .i64 k ∧ ∀ (j : Nat) (x : Option Nd), j < k → l[j]? = some x → x ≠ none) (fun _ n => l.length - (intOf n).toNat)
  case atStart => exact ⟨0, Nat.zero_le _, rfl, fun j x hj => by omega⟩
  case round =>
    obtain ⟨k, hk, rfl, hno⟩ := hrel
    have HO := qh hno
    clear hno
    by_cases hlt : k < l.length
    · cases ao with
      | none => exact absurd (HN.out rfl).1 (by omega)
      | some a =>
        obtain ⟨b, off, sp⟩ := a
        obtain ⟨y, hy⟩ : ∃ y, l[k]? = some y := ⟨l[k], by simp [hlt]⟩
        have hcell := HC.out _ rfl k (nodeVal ptr k y) (by simp [nodeVals, List.getElem?_mapIdx, hy])
        have HY := qh hy
        clear hy
        cases y with
        | none =>
          simp only [nodeVal] at hcell
          go_wp2_with (go_at_call 77; refine (isNil_yes _).mono ?_; rintro e w' ⟨rfl, rfl⟩)
          go_ret
          exact ⟨ret_int_d (by rw [freeOf_at HY.out HO.out]), rfl⟩
        | some nd =>
          simp only [nodeVal] at hcell
          go_wp2_with (go_at_call 77; refine (isNil_no _ _).mono ?_; rintro e w' ⟨rfl, rfl⟩)
          go_round
          case rel =>
            refine ⟨k + 1, by omega, by go_num, fun j x hj hx => ?_⟩
            rcases Nat.lt_or_ge j k with h1 | h1
            · exact HO.out j x h1 hx
            · obtain rfl : j = k := by omega
              rw [HY.out] at hx
              cases hx
              exact fun h => by cases h
          case measure => simp [intOf]; omega
    · go_wp2
      go_ret
      refine ⟨ret_int_d ?_, rfl⟩
      rw [freeOf_no fun j x hx => HO.out j x (by have := (List.getElem?_eq_some_iff.1 hx).1; omega) hx]
def NodeAt (w : World) (own : Ow) (i pb : Nat) (nd : Nd) : Prop :=
  ∃ av kv, w.heap[pb]? = some (.cells #[.int .i64 nd.tag, av, .string nd.text, kv, .int .i64 nd.parent] 97 (0, 0)) ∧
    own pb = some (2, i) ∧ RowAt w own 104 2 (3, i) av nd.attrs.length (attrCells nd.attrs) ∧ RowAt w own 3 1 (4, i) kv nd.kids.length (nd.kids.map (Value.int .i64))
theorem NodeAt.move {w w' : World} {own own' : Ow} {i pb : Nat} {nd : Nd} (h : NodeAt w own i pb nd) (k : ∀ b c, own b = some (c, i) → 2 ≤ c → w'.heap[b]? = w.heap[b]? ∧ own' b = own b) : NodeAt w' own' i pb nd := by
  obtain ⟨av, kv, h1, h2, h3, h4⟩ := h
  refine ⟨av, kv, by rw [(k pb 2 h2 (Nat.le_refl _)).1]; exact h1, by rw [(k pb 2 h2 (Nat.le_refl _)).2]; exact h2, RowP.move h3 fun g hg => ?_, RowP.move h4 fun g hg => ?_⟩
  · have := k g 3 hg (by omega); exact ⟨this.1, this.2.trans hg⟩
  · have := k g 4 hg (by omega); exact ⟨this.1, this.2.trans hg⟩
theorem TreeAt.nodeAt {w : World} {own : Ow} {ptr : Nat → Nat} {tb : Nat} {T : Tr} (h : TreeAt w own ptr tb T) {i : Nat} {nd : Nd} (hi : T.nodes[i]? = some (some nd)) : NodeAt w own i (ptr i) nd := h.node i nd hi

theorem TreeAt.setCount {w : World} {own : Ow} {ptr : Nat → Nat} {tb : Nat} {T : Tr} (h : TreeAt w own ptr tb T) (c : Int) : TreeAt (w.setCell ⟨tb, 2, none⟩ (.int .i64 c)) own ptr tb { T with count := c } := by
  obtain ⟨nv, h1, h2, h3⟩ := h.head
  have k : ∀ b x, own b = some x → x ≠ (0, 0) → (w.setCell ⟨tb, 2, none⟩ (.int .i64 c)).heap[b]? = w.heap[b]? := fun b x hb hx =>
    heap_setCell_other _ (fun (e : b = tb) => hx (by rw [e, h2] at hb; exact (Option.some.inj hb).symm))
  constructor
  · exact ⟨nv, by rw [heap_setCell_same h1]; rfl, h2, RowP.move h3 fun g hg => ⟨k g _ hg (by simp), hg⟩⟩
  · intro i nd hi
    exact (h.nodeAt hi).move fun b x hb hx => ⟨k b _ hb (by simp; omega), rfl⟩

theorem TreeAt.grow {w w' : World} {own own' : Ow} {ptr : Nat → Nat} {tb : Nat} {T : Tr} (h : TreeAt w own ptr tb T) {v : Value}
    (hr : RowAt w' own' 94 1 (1, 0) v (T.nodes.length + 1) (nodeVals ptr T.nodes ++ [.pointer none]))
    (k : ∀ b x, own b = some x → x ≠ (1, 0) → w'.heap[b]? = w.heap[b]? ∧ own' b = own b) :
    TreeAt (w'.setCell ⟨tb, 3, none⟩ v) own' ptr tb { T with nodes := T.nodes ++ [none] } := by
  obtain ⟨nv, h1, h2, h3⟩ := h.head
  have h1' := (k tb _ h2 (by simp)).1.trans h1
  have h2' := (k tb _ h2 (by simp)).2.trans h2
  have k' : ∀ b x, own' b = some x → x ≠ (0, 0) → (w'.setCell ⟨tb, 3, none⟩ v).heap[b]? = w'.heap[b]? := fun b x hb hx =>
    heap_setCell_other _ (fun (e : b = tb) => hx (by rw [e, h2'] at hb; exact (Option.some.inj hb).symm))
  constructor
  · refine ⟨v, by rw [heap_setCell_same h1']; rfl, h2', ?_⟩
    have : nodeVals ptr (T.nodes ++ [none]) = nodeVals ptr T.nodes ++ [.pointer none] := by simp [nodeVals, List.mapIdx_append, nodeVal]
    rw [this, List.length_append]
    exact RowP.move hr fun g hg => ⟨k' g _ hg (by simp), hg⟩
  · intro i nd hi
    have hi' : T.nodes[i]? = some (some nd) := by
      rw [List.getElem?_append] at hi
      split at hi
      · exact hi
      · rename_i hge
        rcases Nat.eq_zero_or_pos (i - T.nodes.length) with h0 | h0
        · rw [h0] at hi; simp at hi
        · rw [List.getElem?_eq_none (by simp; omega)] at hi; cases hi
    refine (h.nodeAt hi').move fun b x hb hx => ?_
    have := k b _ hb (by simp; omega)
    exact ⟨(k' b (x, i) (this.2.trans hb) (by simp; omega)).trans this.1, this.2⟩

theorem TreeAt.setNode {w w' : World} {own own' : Ow} {ptr : Nat → Nat} {tb : Nat} {T : Tr} (h : TreeAt w own ptr tb T) {i : Nat} {nd nd' : Nd} (hi : T.nodes[i]? = some (some nd))
    (hn : NodeAt w' own' i (ptr i) nd') (k : ∀ b x, own b = some x → (2 ≤ x.1 → x.2 ≠ i) → w'.heap[b]? = w.heap[b]? ∧ own' b = own b) :
    TreeAt w' own' ptr tb { T with nodes := T.nodes.set i (some nd') } := by
  obtain ⟨nv, h1, h2, h3⟩ := h.head
  have hlt := (List.getElem?_eq_some_iff.1 hi).1
  constructor
  · refine ⟨nv, (k tb _ h2 (by simp)).1.trans h1, (k tb _ h2 (by simp)).2.trans h2, ?_⟩
    have e : nodeVals ptr (T.nodes.set i (some nd')) = nodeVals ptr T.nodes := by
      apply List.ext_getElem?
      intro j
      simp only [nodeVals, List.getElem?_mapIdx, List.getElem?_set]
      split
      · rename_i hj; subst hj; rw [hi]; simp [nodeVal]
      · rfl
    rw [e, List.length_set]
    exact RowP.move h3 fun g hg => ⟨(k g _ hg (by simp)).1, (k g _ hg (by simp)).2.trans hg⟩
  · intro j md hj
    rw [List.getElem?_set] at hj
    split at hj
    · rename_i hji
      subst hji
      simp at hj
      subst hj
      exact hn
    · rename_i hji
      refine (h.nodeAt hj).move fun b x hb hx => ?_
      exact k b _ hb (fun _ => Ne.symm hji)

theorem TreeAt.place {w w' : World} {own own' : Ow} {ptr : Nat → Nat} {tb : Nat} {T : Tr} (h : TreeAt w own ptr tb T) {i B g cap : Nat} {nd : Nd} (hi : T.nodes[i]? = some none)
    (hg : w.heap[tb]? = some (.cells #[.int .i64 T.cap, .int .i64 T.deep, .int .i64 T.count, .slice (some ⟨g, 0, none⟩) T.nodes.length cap] 90 (0, 0)))
    (hn : NodeAt w' own' i B nd) (k : ∀ b x, own b = some x → w'.heap[b]? = w.heap[b]? ∧ own' b = own b) :
    TreeAt (w'.setCell ⟨g, i, none⟩ (.pointer (some ⟨B, 0, none⟩))) own' (fun j => if j = i then B else ptr j) tb { T with nodes := T.nodes.set i (some nd) } := by
  obtain ⟨nv, h1, h2, h3⟩ := h.head
  have hlt := (List.getElem?_eq_some_iff.1 hi).1
  rw [hg] at h1
  obtain rfl : nv = .slice (some ⟨g, 0, none⟩) T.nodes.length cap := by simp at h1; exact h1.symm
  rcases h3.2 with ⟨h0, _⟩ | ⟨g', cap', cur, q1, q2, q3, q4, q5, q6, q7⟩
  · omega
  obtain ⟨rfl, rfl⟩ : g = g' ∧ cap = cap' := by simp at q1; exact q1
  have kg := k g _ q2
  have k' : ∀ b, own' b ≠ own' g → (w'.setCell ⟨g, i, none⟩ (.pointer (some ⟨B, 0, none⟩))).heap[b]? = w'.heap[b]? := fun b hb => heap_setCell_other _ (fun (e : b = g) => hb (by rw [e]))
  have hog : own' g = some (1, 0) := kg.2.trans q2
  constructor
  · have kt := k tb _ h2
    refine ⟨_, ((k' tb (by rw [hog, kt.2, h2]; simp)).trans kt.1).trans hg, kt.2.trans h2, ?_⟩
    refine ⟨by simp [nodeVals], .inr ⟨g, cap, cur.setIfInBounds i (.pointer (some ⟨B, 0, none⟩)), by simp, hog, by rw [heap_setCell_same (kg.1.trans q3)], by simpa using q4, q5, by simpa using q6, ?_⟩⟩
    apply List.ext_getElem?
    intro j
    have hq : (cur.toList.take (T.nodes.length * 1))[j]? = (nodeVals ptr T.nodes)[j]? := by rw [q7]
    simp only [nodeVals, List.getElem?_mapIdx, List.getElem?_take, List.length_set, Array.toList_setIfInBounds, List.getElem?_set, Nat.mul_one] at hq ⊢
    by_cases hj : i = j
    · subst hj
      rw [if_pos hlt, if_pos rfl, if_pos rfl, if_pos (by simp; omega), if_pos hlt]
      simp [nodeVal]
    · rw [if_neg hj, if_neg hj, hq]
      cases T.nodes[j]? with
      | none => rfl
      | some x => cases x <;> simp [nodeVal, Ne.symm hj]
  · intro j md hj
    rw [List.getElem?_set] at hj
    split at hj
    · rename_i hji
      subst hji
      simp at hj
      subst hj
      show NodeAt _ own' i (if i = i then B else ptr i) nd
      rw [if_pos rfl]
      exact hn.move fun b x hb hx => ⟨k' b (by rw [hb, hog]; simp; omega), rfl⟩
    · rename_i hji
      show NodeAt _ own' j (if j = i then B else ptr j) md
      rw [if_neg (Ne.symm hji)]
      refine (h.nodeAt hj).move fun b x hb hx => ?_
      have := k b _ hb
      exact ⟨(k' b (by rw [this.2, hb, hog]; simp; omega)).trans this.1, this.2⟩
def After (own : Ow) (w : World) (tb : Nat) (T' : Tr) (w' : World) : Prop := ∃ own' ptr', TreeAt w' own' ptr' tb T' ∧ Step own w own' w'
def AddIs (own : Ow) (w : World) (tb : Nat) (id : Int) (T' : Tr) (e : Ending) (w' : World) : Prop := e = .returned (.int .i64 id) ∧ After own w tb T' w'

theorem heap_alloc_setCell (w : World) (p : Addr) (u : Value) (o : Obj) (hp : p.block < w.heap.size) (b : Nat) : ((w.setCell p u).alloc o).heap[b]? = ((w.alloc o).setCell p u).heap[b]? := by
  have hs : (w.setCell p u).heap.size = w.heap.size := by simp [World.setCell]
  by_cases hb : b = w.heap.size
  · subst hb
    rw [heap_setCell_other _ (by omega : w.heap.size ≠ p.block)]
    have e1 : ((w.setCell p u).alloc o).heap[w.heap.size]? = some o := by rw [← hs]; exact heap_alloc_new _ _
    rw [e1]; exact (heap_alloc_new w o).symm
  · by_cases hlt : b < w.heap.size
    · rw [Below.heap_alloc (w.setCell p u) o b (by rw [hs]; exact hlt)]
      by_cases hbp : b = p.block
      · subst hbp
        simp only [World.setCell, Array.getElem?_modify]
        rw [Below.heap_alloc w o _ hlt]
      · rw [heap_setCell_other _ hbp, heap_setCell_other _ hbp, Below.heap_alloc w o b hlt]
    · rw [Array.getElem?_eq_none (by simp [hs]; omega), Array.getElem?_eq_none (by simp [World.setCell]; omega)]
theorem Step.same_heap {own own' : Ow} {a b c : World} (h : Step own a own' b) (k : ∀ x : Nat, c.heap[x]? = b.heap[x]?) (h1 : c.os = b.os) (h2 : c.tape = b.tape) (h3 : c.output = b.output) (h4 : c.heap.size = b.heap.size) : Step own a own' c :=
  ⟨h1.trans h.os, h2.trans h.tape, h3.trans h.output, by rw [h4]; exact h.size, fun x hx hn => (k x).trans (h.rest x hx hn), h.same, fun x hx => by rw [h4]; exact h.owned x hx⟩
theorem add_plain {w wz : World} {own0 own : Ow} {ptr : Nat → Nat} {tb : Nat} {T : Tr} (h0 : Step own0 w own wz) (hT : TreeAt wz own ptr tb T) {i g capn : Nat} (hi : T.nodes[i]? = some none)
    (hb : wz.heap[tb]? = some (.cells #[.int .i64 T.cap, .int .i64 T.deep, .int .i64 T.count, .slice (some ⟨g, 0, none⟩) T.nodes.length capn] 90 (0, 0))) (hog : own g = some (1, 0)) (hob : own tb = some (0, 0))
    (hog0 : g < w.heap.size → own0 g ≠ none) (hob0 : tb < w.heap.size → own0 tb ≠ none)
    {av : Value} {attrs : List (ByteArray × ByteArray)} {rb : Option Nat} (hr1 : RowP wz (fun g => rb = some g) 104 2 av attrs.length (attrCells attrs)) (hr2 : ∀ k, rb = some k → own k = none ∧ w.heap.size ≤ k ∧ k < wz.heap.size) (tag : Int) (text : ByteArray)
    (c : Int) (hc : c = T.count + 1) :
    After own0 w tb { T with count := T.count + 1, nodes := T.nodes.set i (some ⟨tag, attrs, text, [], -1⟩) }
      (((wz.setCell ⟨g, i, none⟩ (.pointer (some ⟨wz.heap.size, 0, none⟩))).setCell ⟨tb, 2, none⟩ (.int .i64 c)).alloc (.cells #[.int .i64 tag, av, .string text, .slice none 0 0, .int .i64 (-1)] 97)).drew := by
  subst hc
  have hO := h0.owned
  have hgl := hO g (by simp [hog])
  have htl := hO tb (by simp [hob])
  have hws := h0.size
  let o : Obj := .cells #[.int .i64 tag, av, .string text, .slice none 0 0, .int .i64 (-1)] 97
  let own' : Ow := fun b => if b = wz.heap.size then some (2, i) else if rb = some b then some (3, i) else own b
  have hold : ∀ b, b < wz.heap.size → (wz.alloc o).heap[b]? = wz.heap[b]? := fun b hb => Below.heap_alloc _ _ _ hb
  have hown' : ∀ b x, own b = some x → own' b = own b := fun b x hb => by
    have h1 := hO b (by simp [hb])
    show (if b = wz.heap.size then _ else if rb = some b then _ else _) = _
    rw [if_neg (by omega), if_neg (fun h => by rw [(hr2 b h).1] at hb; cases hb)]
  have hB : own' wz.heap.size = some (2, i) := if_pos rfl
  have hn : NodeAt (wz.alloc o) own' i wz.heap.size ⟨tag, attrs, text, [], -1⟩ := by
    refine ⟨av, .slice none 0 0, heap_alloc_new wz o, hB, RowP.move hr1 fun k hk => ?_, ⟨by simp, .inl ⟨rfl, none, rfl⟩⟩⟩
    obtain ⟨k1, k2, k3⟩ := hr2 k hk
    refine ⟨hold k k3, ?_⟩
    show (if k = wz.heap.size then _ else _) = _
    rw [if_neg (by omega), if_pos hk]
  have hP := hT.place hi hb hn (fun b x hx => ⟨hold b (hO b (by simp [hx])), hown' b x hx⟩)
  have hC := hP.setCount (T.count + 1)
  have hlook : ∀ b : Nat, (((wz.setCell ⟨g, i, none⟩ (.pointer (some ⟨wz.heap.size, 0, none⟩))).setCell ⟨tb, 2, none⟩ (.int .i64 (T.count + 1))).alloc o).drew.heap[b]? =
      (((wz.alloc o).setCell ⟨g, i, none⟩ (.pointer (some ⟨wz.heap.size, 0, none⟩))).setCell ⟨tb, 2, none⟩ (.int .i64 (T.count + 1))).heap[b]? := fun b => by
    show (((wz.setCell ⟨g, i, none⟩ (.pointer (some ⟨wz.heap.size, 0, none⟩))).setCell ⟨tb, 2, none⟩ (.int .i64 (T.count + 1))).alloc o).heap[b]? = _
    rw [heap_alloc_setCell _ _ _ _ (by simp [World.setCell]; omega)]
    by_cases hbt : b = tb
    · subst hbt
      simp only [World.setCell, Array.getElem?_modify]
      have := heap_alloc_setCell wz ⟨g, i, none⟩ (.pointer (some ⟨wz.heap.size, 0, none⟩)) o (by show g < _; omega) b
      simp only [World.setCell, Array.getElem?_modify] at this
      rw [this]
    · rw [heap_setCell_other _ hbt, heap_setCell_other _ hbt, heap_alloc_setCell _ _ _ _ (by show g < _; omega)]
  refine ⟨own', _, hC.keep fun b _ => hlook b, ?_⟩
  have hst : Step own0 w own' (((wz.alloc o).setCell ⟨g, i, none⟩ (.pointer (some ⟨wz.heap.size, 0, none⟩))).setCell ⟨tb, 2, none⟩ (.int .i64 (T.count + 1))) := by
    have h1 : Step own0 w own (wz.alloc o) := h0.ext ((Ext.refl _).alloc _)
    refine ((h1.own (fun x hx => ?_) fun b hb => ?_).setCell hog0 _).setCell hob0 _
    · show (if x = wz.heap.size then _ else if rb = some x then _ else _) = _
      rw [if_neg (by omega), if_neg (fun h => by have := (hr2 x h).2.1; omega)]
    · have hb' : (if b = wz.heap.size then some (2, i) else if rb = some b then some (3, i) else own b) ≠ none := hb
      simp only [World.size_alloc]
      split at hb'
      · omega
      · split at hb'
        · rename_i hrb; have := (hr2 b hrb).2.2; omega
        · have := hO b hb'; omega
  exact hst.same_heap hlook rfl rfl rfl (by simp [World.setCell, World.drew])

theorem add_free {w : World} {own : Ow} {ptr : Nat → Nat} {tb : Nat} {T : Tr} (hT : TreeAt w own ptr tb T) (hO : Owned own w) (hs : Small T) {i : Nat} (hf : freeOf' T.nodes = (i : Int)) (hi : T.nodes[i]? = some none)
    (tag : Int) (text : ByteArray) (av : Value) (attrs : List (ByteArray × ByteArray)) (ha : RowRd w 2 av attrs.length (attrCells attrs)) (hn : attrs.length ≤ 60000) (h1c : ∀ u ∈ attrCells attrs, u.oneCell' = true) :
    Calls Tryz.prog 40 #[.pointer (some ⟨tb, 0, none⟩), .agg #[.int .i64 tag, av, .string text]] w (AddIs own w tb i { T with count := T.count + 1, nodes := T.nodes.set i (some ⟨tag, attrs, text, [], -1⟩) }) := by
  obtain ⟨ao, cap0, hav, _⟩ := ha.len_of
  subst hav
  obtain ⟨nv, hb, hob, hrow0⟩ := hT.head
  have hilt := (List.getElem?_eq_some_iff.1 hi).1
  obtain ⟨g, capn, hnv, _⟩ := hrow0.cell (i := i) (x := .pointer none) (by simp [nodeVals, List.getElem?_mapIdx, hi, nodeVal])
  subst hnv
  obtain ⟨_, _, hE, hcapn, hcapm⟩ := hrow0.len
  cases hE
  have hog : own g = some (1, 0) := by
    rcases hrow0.2 with ⟨h0, _⟩ | ⟨g', cap', cur, q1, q2, _⟩
    · omega
    · cases q1; exact q2
  have hgl := hO g (by simp [hog])
  have htl := hO tb (by simp [hob])
  have hcg : ∃ x, w.cell? ⟨g, i, none⟩ = some x := by
    obtain ⟨g', cap', q, hc⟩ := hrow0.cell (i := i) (x := .pointer none) (by simp [nodeVals, List.getElem?_mapIdx, hi, nodeVal])
    cases q; exact ⟨_, hc⟩
  obtain ⟨xg, hcg⟩ := hcg
  have hfg : w.frozen? ⟨g, i, none⟩ = false := by
    rcases hrow0.2 with ⟨h0, _⟩ | ⟨g', cap', cur, q1, q2, q3, _⟩
    · omega
    · cases q1; exact freeOf q3 i
  have ngt : g ≠ tb := fun e => by rw [e, hob] at hog; cases hog
  have hlen := hs.len
  have hc0 := hs.count0
  have hc1 := hs.count1
  have hc2 := hs.cap1
  have HB := qh hb
  have HA := qh ha
  have HF := qh hf
  have HI := qh hi
  have HT := qh hT
  have HOO := qh hO
  have HN := qh hn
  have H1 := qh h1c
  have HR0 := qh hrow0
  unfold maxLen at hcapm
  clear ha hf hi hT hO hn h1c hb hrow0 hs
  go_enter Tryz.func40, Tryz.ntmps40
  go_wp2_with fail
  refine (cloneA_any (RowRd.ext HA.out ((Ext.refl w).alloc _)) HN.out H1.out).mono ?_
  rintro e w1 ⟨v, rfl, hrow, hx⟩
  have c0 := hx.cell (b := w.heap.size) (o := 0) (v := .int .i64 tag) (by simp [go_sem])
  have c1 := hx.cell (b := w.heap.size) (o := 1) (v := .slice ao attrs.length cap0) (by simp [go_sem])
  have c2 := hx.cell (b := w.heap.size) (o := 2) (v := .string text) (by simp [go_sem])
  have f1 := hx.free (b := w.heap.size) (o := 1) (by simp <;> omega) (by simp [go_sem])
  have x1 : Ext w w1 := ((Ext.refl w).alloc _).trans hx
  obtain ⟨a1, cap1, hv, _⟩ := hrow.rd.len_of
  subst hv
  have hb1 := x1.block HB.out
  have t2 := cellOf hb1 (i := 2) (v := .int .i64 T.count) rfl
  have t3 := cellOf hb1 (i := 3) (v := .slice (some ⟨g, 0, none⟩) T.nodes.length capn) rfl
  have u2 := freeOf hb1 2
  have g1 := x1.cell hcg
  have g2 := x1.free hgl hfg
  have ntb : tb ≠ w.heap.size := Nat.ne_of_lt htl
  have ntb' : w.heap.size ≠ tb := Ne.symm ntb
  have ng : g ≠ w.heap.size := Nat.ne_of_lt hgl
  have ng' : w.heap.size ≠ g := Ne.symm ng
  have l0 := cell_lt c0
  have HB1 := qh hb1
  have HX := qh hx
  have HROW := qh hrow
  clear hb1 hx hrow hcg hfg
  go_wp2_with fail
  have hr2 : RowP (w1.setCell ⟨w.heap.size, 1, none⟩ (.slice a1 attrs.length cap1)) (fun g => own g = some (1, 0)) 94 1 (.slice (some ⟨g, 0, none⟩) T.nodes.length capn) T.nodes.length (nodeVals ptr T.nodes) := by
    refine RowP.move HR0.out fun b hb => ⟨?_, hb⟩
    have hbl := HOO.out b (by simp [hb])
    rw [heap_setCell_other _ (by show b ≠ w.heap.size; omega)]
    exact Below.block x1 b hbl
  refine (free_any hr2 (by omega)).mono ?_
  clear hr2
  rintro e w2 ⟨rfl, rfl⟩
  rw [HF.out]
  go_wp2_with fail
  obtain ⟨wz, hwz⟩ : ∃ wz : World, wz = w1.setCell ⟨w.heap.size, 1, none⟩ (.slice a1 attrs.length cap1) := ⟨_, rfl⟩
  have z0 : wz.cell? ⟨w.heap.size, 0, none⟩ = some (.int .i64 tag) := by rw [hwz]; simp [go_sem, c0]
  have z1 : wz.cell? ⟨w.heap.size, 1, none⟩ = some (.slice a1 attrs.length cap1) := by rw [hwz]; simp [go_sem, c1]
  have z2 : wz.cell? ⟨w.heap.size, 2, none⟩ = some (.string text) := by rw [hwz]; simp [go_sem, c2]
  have y2 : wz.cell? ⟨tb, 2, none⟩ = some (.int .i64 T.count) := by rw [hwz]; simp [go_sem, ntb, ntb', t2]
  have y3 : wz.cell? ⟨tb, 3, none⟩ = some (.slice (some ⟨g, 0, none⟩) T.nodes.length capn) := by rw [hwz]; simp [go_sem, ntb, ntb', t3]
  have v2 : wz.frozen? ⟨tb, 2, none⟩ = false := by rw [hwz]; simp [go_sem, u2]
  have k1 : wz.cell? ⟨g, i, none⟩ = some xg := by rw [hwz]; simp [go_sem, ng, ng', g1]
  have k2 : wz.frozen? ⟨g, i, none⟩ = false := by rw [hwz]; simp [go_sem, g2]
  have lz : wz.heap.size = w1.heap.size := by rw [hwz]; simp [World.setCell]
  have lg := cell_lt k1
  have lt := cell_lt y2
  have ngz : g ≠ wz.heap.size := Nat.ne_of_lt lg
  have ntz : tb ≠ wz.heap.size := Nat.ne_of_lt lt
  rw [← hwz]
  have HWZ := qh hwz
  have LZ := qh lz
  clear hwz c0 c1 c2 f1 t2 t3 u2 g1 g2 lz
  go_region_held3 (fun w' => w'.cell? ⟨tb, 3, none⟩ = some (.slice (some ⟨g, 0, none⟩) T.nodes.length capn) ∧ w'.cell? ⟨w.heap.size, 0, none⟩ = some (.int .i64 tag) ∧ w'.cell? ⟨w.heap.size, 1, none⟩ = some (.slice a1 attrs.length cap1) ∧ w'.cell? ⟨w.heap.size, 2, none⟩ = some (.string text))
    (first | exact ⟨y3, z0, z1, z2⟩ | go_keep) (first | fail | fail)
  go_wp2
  go_ret
  have hR : RowIn w1 (w.heap.size + 1) 104 2 (.slice a1 attrs.length cap1) attrs.length (attrCells attrs) := by
    have := HROW.out
    simpa using this
  obtain ⟨rb, hr1, hr2⟩ := hR.block
  have hzs : wz.heap.size = w1.heap.size := LZ.out
  have h0 : Step own w own wz := by rw [HWZ.out]; exact (x1.step HOO.out).setCell (fun h => by exfalso; exact Nat.lt_irrefl _ h) _
  have hk : Keep own w wz := fun b hb => by
    have hbl := HOO.out b hb
    rw [HWZ.out, heap_setCell_other _ (by show b ≠ w.heap.size; omega)]
    exact Below.block x1 b hbl
  exact ⟨rfl, add_plain h0 (HT.out.keep hk) HI.out (by rw [hk tb (by simp [hob])]; exact HB.out) hog hob (fun _ => by simp [hog]) (fun _ => by simp [hob])
    (RowP.move hr1 fun k hk => ⟨by rw [HWZ.out, heap_setCell_other _ (by have := (hr2 k hk).1; show k ≠ w.heap.size; omega)], hk⟩)
    (fun k hk => by
      have := hr2 k hk
      refine ⟨?_, by omega, by omega⟩
      cases ho : own k with
      | none => rfl
      | some x => have := HOO.out k (by simp [ho]); omega) tag text _ rfl⟩
theorem grow_plain {w W w3 : World} {own0 own : Ow} {ptr : Nat → Nat} {tb : Nat} {T : Tr} (h0 : Step own0 w own W) (hT : TreeAt W own ptr tb T) (hob : own tb = some (0, 0)) (hob0 : tb < w.heap.size → own0 tb ≠ none)
    (h00 : ∀ b, b < w.heap.size → own b = some (1, 0) → own0 b ≠ none)
    {v : Value} {row : Option Nat} (hr : RowP w3 (fun g => own g = some (1, 0) ∨ W.heap.size ≤ g) 94 1 v (T.nodes.length + 1) (nodeVals ptr T.nodes ++ [.pointer none])) (hg : W.grownBy w3 row) (hrow : ∀ k, row = some k → own k = some (1, 0)) :
    ∃ own1 g cap, v = .slice (some ⟨g, 0, none⟩) (T.nodes.length + 1) cap ∧ cap ≤ maxLen ∧ T.nodes.length + 1 ≤ cap ∧ own1 g = some (1, 0) ∧ own1 tb = some (0, 0) ∧ (g < w.heap.size → own0 g ≠ none) ∧ Step own0 w own1 (w3.setCell ⟨tb, 3, none⟩ v) ∧ TreeAt (w3.setCell ⟨tb, 3, none⟩ v) own1 ptr tb { T with nodes := T.nodes ++ [none] } ∧
      (∀ b, own1 b = none → own b = none) ∧ (∀ b, own b = none → b < W.heap.size → own1 b = none) ∧
      (w3.setCell ⟨tb, 3, none⟩ v).heap[tb]? = some (.cells #[.int .i64 T.cap, .int .i64 T.deep, .int .i64 T.count, v] 90 (0, 0)) ∧ (∃ x, w3.cell? ⟨g, T.nodes.length, none⟩ = some x) ∧ w3.frozen? ⟨g, T.nodes.length, none⟩ = false ∧ g ≠ tb := by
  rcases hr.2 with ⟨h1, _⟩ | ⟨g, cap, cur, rfl, q2, q3, q4, q5, q6, q7⟩
  · omega
  have hO := h0.owned
  let own1 : Ow := fun b => if b < W.heap.size then own b else if b = g then some (1, 0) else none
  have e1 : ∀ b, b < W.heap.size → own1 b = own b := fun b hb => if_pos hb
  have hog : own1 g = some (1, 0) := by
    show (if g < W.heap.size then _ else _) = _
    rcases q2 with q2 | q2
    · rw [if_pos (hO g (by simp [q2]))]; exact q2
    · rw [if_neg (by omega), if_pos rfl]
  have htl := hO tb (by simp [hob])
  have hot : own1 tb = some (0, 0) := (e1 tb htl).trans hob
  have hgl : g < w3.heap.size := (Array.getElem?_eq_some_iff.1 q3).1
  have hsz := hg.size
  have keep : ∀ b x, own b = some x → x ≠ (1, 0) → w3.heap[b]? = W.heap[b]? ∧ own1 b = own b := fun b x hb hx => by
    have hbl := hO b (by simp [hb])
    exact ⟨hg.block b hbl (fun h => by have := hrow b h.symm; rw [hb] at this; exact hx (Option.some.inj this)), e1 b hbl⟩
  have hr' : RowAt w3 own1 94 1 (1, 0) (.slice (some ⟨g, 0, none⟩) (T.nodes.length + 1) cap) (T.nodes.length + 1) (nodeVals ptr T.nodes ++ [.pointer none]) :=
    ⟨hr.1, .inr ⟨g, cap, cur, rfl, hog, q3, q4, q5, q6, q7⟩⟩
  have hG := hT.grow hr' keep
  obtain ⟨nv, hb, _, _⟩ := hT.head
  have hb3 : w3.heap[tb]? = _ := (keep tb _ hob (by simp)).1.trans hb
  refine ⟨own1, g, cap, rfl, q5, q4, hog, hot, fun hgw => ?_, ?_, hG, fun b hb => ?_, fun b hb hbl => (e1 b hbl).trans hb, by rw [heap_setCell_same hb3]; rfl, ?_, freeOf q3 _, fun e => by rw [e, hot] at hog; cases hog⟩
  · have hgW := Nat.lt_of_lt_of_le hgw h0.size
    exact h00 g hgw ((e1 g hgW).symm.trans hog)
  · have hst : Step own0 w own1 w3 := by
      refine ⟨hg.os.trans h0.os, hg.tape.trans h0.tape, hg.output.trans h0.output, Nat.le_trans h0.size hg.size, fun b hb hn => ?_, fun b hb => (e1 b (Nat.lt_of_lt_of_le hb h0.size)).trans (h0.same b hb), fun b hb => ?_⟩
      · rw [hg.block b (Nat.lt_of_lt_of_le hb h0.size) (fun h => h00 b hb (hrow b h.symm) hn)]
        exact h0.rest b hb hn
      · have hb' : (if b < W.heap.size then own b else if b = g then some (1, 0) else none) ≠ none := hb
        split at hb'
        · omega
        · split at hb'
          · omega
          · exact absurd rfl hb'
    exact hst.setCell hob0 _
  · have hb' : (if b < W.heap.size then own b else if b = g then some (1, 0) else none) = none := hb
    split at hb'
    · exact hb'
    · cases ho : own b with
      | none => rfl
      | some x => have := hO b (by simp [ho]); omega
  · have hlt : T.nodes.length < cur.size := by rw [q6]; omega
    exact ⟨_, cellOf q3 (Array.getElem?_eq_getElem hlt)⟩

theorem add_full {w : World} {own : Ow} {ptr : Nat → Nat} {tb : Nat} {T : Tr} (hT : TreeAt w own ptr tb T) (hO : Owned own w) (hs : Small T) (hlen : T.nodes.length ≤ 1999) (hf : freeOf' T.nodes = -1)
    (tag : Int) (text : ByteArray) (av : Value) (attrs : List (ByteArray × ByteArray)) (ha : RowRd w 2 av attrs.length (attrCells attrs)) (hn : attrs.length ≤ 60000) (h1c : ∀ u ∈ attrCells attrs, u.oneCell' = true) :
    Calls Tryz.prog 40 #[.pointer (some ⟨tb, 0, none⟩), .agg #[.int .i64 tag, av, .string text]] w (AddIs own w tb T.nodes.length { T with count := T.count + 1, nodes := T.nodes ++ [some ⟨tag, attrs, text, [], -1⟩] }) := by
  obtain ⟨ao, cap0, hav, _⟩ := ha.len_of
  subst hav
  obtain ⟨nv, hb, hob, hrow0⟩ := hT.head
  obtain ⟨an, capn, hnv, hcapn, hcapm⟩ := hrow0.len
  subst hnv
  have htl := hO tb (by simp [hob])
  have hc0 := hs.count0
  have hc1 := hs.count1
  have hc2 := hs.cap1
  obtain ⟨i0, hi, hz0, hz1, hz2⟩ := info_parts infoP
  have Hi := qh hi
  have Hz0 := qh hz0
  have Hz1 := qh hz1
  have Hz2 := qh hz2
  have HB := qh hb
  have HA := qh ha
  have HF := qh hf
  have HT := qh hT
  have HOO := qh hO
  have HN := qh hn
  have H1 := qh h1c
  have HR0 := qh hrow0
  have HOB := qh hob
  unfold maxLen at hcapm
  clear ha hf hT hO hn h1c hb hrow0 hs hi hz0 hz1 hz2 hob
  go_enter Tryz.func40, Tryz.ntmps40
  go_wp2_with fail
  refine (cloneA_any (RowRd.ext HA.out ((Ext.refl w).alloc _)) HN.out H1.out).mono ?_
  rintro e w1 ⟨v, rfl, hrow, hx⟩
  have c0 := hx.cell (b := w.heap.size) (o := 0) (v := .int .i64 tag) (by simp [go_sem])
  have c1 := hx.cell (b := w.heap.size) (o := 1) (v := .slice ao attrs.length cap0) (by simp [go_sem])
  have c2 := hx.cell (b := w.heap.size) (o := 2) (v := .string text) (by simp [go_sem])
  have f1 := hx.free (b := w.heap.size) (o := 1) (by simp <;> omega) (by simp [go_sem])
  have x1 : Ext w w1 := ((Ext.refl w).alloc _).trans hx
  obtain ⟨a1, cap1, hv, _⟩ := hrow.rd.len_of
  subst hv
  have hb1 := x1.block HB.out
  have t2 := cellOf hb1 (i := 2) (v := .int .i64 T.count) rfl
  have t3 := cellOf hb1 (i := 3) (v := .slice an T.nodes.length capn) rfl
  have u2 := freeOf hb1 2
  have ntb : tb ≠ w.heap.size := Nat.ne_of_lt htl
  have ntb' : w.heap.size ≠ tb := Ne.symm ntb
  have l0 := cell_lt c0
  have HX := qh hx
  have HROW := qh hrow
  clear hb1 hx hrow
  go_wp2_with fail
  obtain ⟨wz, hwz⟩ : ∃ wz : World, wz = w1.setCell ⟨w.heap.size, 1, none⟩ (.slice a1 attrs.length cap1) := ⟨_, rfl⟩
  have z0 : wz.cell? ⟨w.heap.size, 0, none⟩ = some (.int .i64 tag) := by rw [hwz]; simp [go_sem, c0]
  have z1 : wz.cell? ⟨w.heap.size, 1, none⟩ = some (.slice a1 attrs.length cap1) := by rw [hwz]; simp [go_sem, c1]
  have z2 : wz.cell? ⟨w.heap.size, 2, none⟩ = some (.string text) := by rw [hwz]; simp [go_sem, c2]
  have y2 : wz.cell? ⟨tb, 2, none⟩ = some (.int .i64 T.count) := by rw [hwz]; simp [go_sem, ntb, ntb', t2]
  have y3 : wz.cell? ⟨tb, 3, none⟩ = some (.slice an T.nodes.length capn) := by rw [hwz]; simp [go_sem, ntb, ntb', t3]
  have lz : wz.heap.size = w1.heap.size := by rw [hwz]; simp [World.setCell]
  have h0 : Step own w own wz := by rw [hwz]; exact (x1.step HOO.out).setCell (fun h => by exfalso; exact Nat.lt_irrefl _ h) _
  have hk : Keep own w wz := fun b hb => by
    have hbl := HOO.out b hb
    rw [hwz, heap_setCell_other _ (by show b ≠ w.heap.size; omega)]
    exact Below.block x1 b hbl
  have hTz := HT.out.keep hk
  have hR : RowIn w1 (w.heap.size + 1) 104 2 (.slice a1 attrs.length cap1) attrs.length (attrCells attrs) := by
    have := HROW.out
    simpa using this
  obtain ⟨rb, hr1, hr2⟩ := hR.block
  have hr1z : RowP wz (fun g => rb = some g) 104 2 (.slice a1 attrs.length cap1) attrs.length (attrCells attrs) :=
    RowP.move hr1 fun k hk => ⟨by rw [hwz, heap_setCell_other _ (by have := (hr2 k hk).1; show k ≠ w.heap.size; omega)], hk⟩
  have hrz : RowP wz (fun g => own g = some (1, 0)) 94 1 (.slice an T.nodes.length capn) T.nodes.length (nodeVals ptr T.nodes) := RowP.move HR0.out fun b hb => ⟨hk b (by simp [hb]), hb⟩
  rw [← hwz]
  have H0 := qh h0
  have HTZ := qh hTz
  have HR1 := qh hr1z
  have HR2 := qh hr2
  have HRZ := qh hrz
  have LZ := qh lz
  have htz := cell_lt y2
  have hpz := cell_lt z0
  clear hwz c0 c1 c2 f1 t2 t3 u2 h0 hk hTz hR hr1 hr2 hr1z hrz lz x1
  refine (free_any HRZ.out (by omega)).mono ?_
  rintro e w2 ⟨rfl, rfl⟩
  rw [HF.out]
  go_wp2_with (at_builtin; refine wpList_append_row rfl _ _ 88 rfl 94 i0 (.pointer none) 1 8 Tryz.underlying88 Hi.out Hz0.out Hz1.out Hz2.out rfl (by decide) (fun g => own g = some (1, 0)) (.slice an T.nodes.length capn) T.nodes.length (nodeVals ptr T.nodes) rfl ?c1 ⟨wz.heap.size, 0, none⟩ 1 1 [.pointer none] rfl rfl ?c2 ?c3 (by decide) ?c4 ?c5 ?_)
  case c1 => exact RowP.ext HRZ.out ((Ext.refl _).alloc _)
  case c2 => exact cell_one_new _ _ _
  case c3 => simp [Value.oneCell']
  case c4 => unfold maxLen; omega
  case c5 => omega
  intro v' w3 row hrw hg hrow
  have hOz := H0.out.owned
  have xW : Ext wz (wz.alloc (Obj.cells #[Value.pointer none] 94)) := (Ext.refl _).alloc _
  have hgr := grow_plain (H0.out.ext xW) (HTZ.out.keep (xW.keep hOz)) HOB.out (fun _ => by rw [HOB.out]; simp) (fun b _ hb => by rw [hb]; simp) (by simpa using hrw) hg hrow
  obtain ⟨own1, g, cap, hv, hcm, hlc, hog1, hot1, hgn, hst, hT1, hn1, hn2, hb1, ⟨xg, hcg⟩, hfg, hgt⟩ := hgr
  have hpres : ∀ b, b < wz.heap.size → own b ≠ some (1, 0) → w3.heap[b]? = wz.heap[b]? := fun b hb hn => by
    rw [hg.block b (by simp; omega) (fun h => hn (hrow b h.symm))]
    exact Below.heap_alloc _ _ _ hb
  have hp0 : own w.heap.size = none := by
    cases ho : own w.heap.size with
    | none => rfl
    | some x => have := HOO.out w.heap.size (by simp [ho]); omega
  have e0 : ∀ o x, wz.cell? ⟨w.heap.size, o, none⟩ = some x → w3.cell? ⟨w.heap.size, o, none⟩ = some x := fun o x hx => (World.cell?_of_block (hpres w.heap.size hpz (by simp [hp0]))).trans hx
  have et : ∀ o x, wz.cell? ⟨tb, o, none⟩ = some x → w3.cell? ⟨tb, o, none⟩ = some x := fun o x hx => (World.cell?_of_block (hpres tb htz (by rw [HOB.out]; simp))).trans hx
  have ef : ∀ o, w3.frozen? ⟨tb, o, none⟩ = false := fun o => by
    obtain ⟨nv, q, _⟩ := HTZ.out.head
    exact freeOf ((hpres tb htz (by rw [HOB.out]; simp)).trans q) o
  replace z0 := e0 _ _ z0
  replace z1 := e0 _ _ z1
  replace z2 := e0 _ _ z2
  replace y2 := et _ _ y2
  replace y3 := et _ _ y3
  have v2 := ef 2
  have v3 := ef 3
  have hsz3 : wz.heap.size + 1 ≤ w3.heap.size := by have := hg.size; simpa using this
  have hr3 : RowP (w3.setCell ⟨tb, 3, none⟩ v') (fun g => rb = some g) 104 2 (.slice a1 attrs.length cap1) attrs.length (attrCells attrs) := RowP.move HR1.out fun k hk => by
    have hk2 := HR2.out k hk
    have hkz : k < wz.heap.size := by rw [LZ.out]; exact hk2.2
    refine ⟨?_, hk⟩
    rw [heap_setCell_other _ (by show k ≠ tb; omega)]
    refine hpres k hkz (fun h => ?_)
    have := HOO.out k (by simp [h]); omega
  have hr4 : ∀ k, rb = some k → own1 k = none ∧ w.heap.size ≤ k ∧ k < (w3.setCell ⟨tb, 3, none⟩ v').heap.size := fun k hk => by
    have hk2 := HR2.out k hk
    have hkz : k < wz.heap.size := by rw [LZ.out]; exact hk2.2
    refine ⟨hn2 k ?_ (by simp; omega), by omega, by simp [World.setCell]; omega⟩
    cases ho : own k with
    | none => rfl
    | some x => have := HOO.out k (by simp [ho]); omega
  have ngz := Ne.symm hgt
  have HST := qh hst
  have HT1 := qh hT1
  have HB1 := qh hb1
  have HR3 := qh hr3
  have HR4 := qh hr4
  have HOG := qh hog1
  have HOT := qh hot1
  have HGN := qh hgn
  have ng0 : g ≠ w.heap.size := fun e => by
    have h2 := hn2 w.heap.size hp0 (by simp; omega)
    rw [← e, hog1] at h2
    cases h2
  have ng0' := Ne.symm ng0
  unfold maxLen at hcm
  clear hst hT1 hb1 hr3 hr4 hn1 hn2 hpres e0 et ef hg hrow hrw hp0 xW hOz hog1 hot1 hgn
  rw [hv] at HST HT1 HB1 HR3 HR4 ⊢
  clear hv
  go_wp2_with fail
  obtain ⟨wq, hwq⟩ : ∃ wq : World, wq = w3.setCell ⟨tb, 3, none⟩ (.slice (some ⟨g, 0, none⟩) (T.nodes.length + 1) cap) := ⟨_, rfl⟩
  rw [← hwq] at HST HT1 HB1 HR3 HR4 ⊢
  replace z0 : wq.cell? ⟨w.heap.size, 0, none⟩ = some (.int .i64 tag) := by rw [hwq]; simp [go_sem, ntb, ntb', z0]
  replace z1 : wq.cell? ⟨w.heap.size, 1, none⟩ = some (.slice a1 attrs.length cap1) := by rw [hwq]; simp [go_sem, ntb, ntb', z1]
  replace z2 : wq.cell? ⟨w.heap.size, 2, none⟩ = some (.string text) := by rw [hwq]; simp [go_sem, ntb, ntb', z2]
  replace y2 : wq.cell? ⟨tb, 2, none⟩ = some (.int .i64 T.count) := by rw [hwq]; simp [go_sem, y2]
  replace y3 : wq.cell? ⟨tb, 3, none⟩ = some (.slice (some ⟨g, 0, none⟩) (T.nodes.length + 1) cap) := by rw [hwq]; simp [go_sem, y3]
  replace v2 : wq.frozen? ⟨tb, 2, none⟩ = false := by rw [hwq]; simp [go_sem, v2]
  replace hcg : wq.cell? ⟨g, T.nodes.length, none⟩ = some xg := by rw [hwq]; simp [go_sem, hgt, ngz, hcg]
  replace hfg : wq.frozen? ⟨g, T.nodes.length, none⟩ = false := by rw [hwq]; simp [go_sem, hfg]
  have lg := cell_lt hcg
  have lt := cell_lt y2
  have ngq : g ≠ wq.heap.size := Nat.ne_of_lt lg
  have ntq : tb ≠ wq.heap.size := Nat.ne_of_lt lt
  have hi0 : (0 : Int) ≤ (T.nodes.length : Int) := by omega
  have hi1 : (T.nodes.length : Int) < (T.nodes.length : Int) + 1 := by omega
  clear hwq v3
  go_region_held3 (fun w' => w'.cell? ⟨tb, 3, none⟩ = some (.slice (some ⟨g, 0, none⟩) (T.nodes.length + 1) cap) ∧ w'.cell? ⟨w.heap.size, 0, none⟩ = some (.int .i64 tag) ∧ w'.cell? ⟨w.heap.size, 1, none⟩ = some (.slice a1 attrs.length cap1) ∧ w'.cell? ⟨w.heap.size, 2, none⟩ = some (.string text))
    (first | exact ⟨y3, z0, z1, z2⟩ | go_keep) (first | fail | fail)
  go_wp2
  go_ret
  have hfin := add_plain (T := { T with nodes := T.nodes ++ [none] }) (i := T.nodes.length) HST.out HT1.out (by simp) (by simpa using HB1.out) HOG.out HOT.out HGN.out (fun _ => by rw [HOB.out]; simp) HR3.out HR4.out tag text (T.count + 1) rfl
  simp only [List.set_append_right _ _ (Nat.le_refl _), Nat.sub_self, List.set_cons_zero] at hfin
  exact ⟨rfl, hfin⟩
theorem add_any_d {w : World} {own : Ow} {ptr : Nat → Nat} {tb : Nat} {T : Tr} (hT : TreeAt w own ptr tb T) (hO : Owned own w) (hs : Small T) (hr : (∀ x ∈ T.nodes, x ≠ none) → T.nodes.length ≤ 1999)
    (tag : Int) (text : ByteArray) (av : Value) (attrs : List (ByteArray × ByteArray)) (ha : RowRd w 2 av attrs.length (attrCells attrs)) (hn : attrs.length ≤ 60000) (h1c : ∀ u ∈ attrCells attrs, u.oneCell' = true) :
    Calls Tryz.prog 40 #[.pointer (some ⟨tb, 0, none⟩), .agg #[.int .i64 tag, av, .string text]] w (AddIs own w tb T.newId (T.put ⟨tag, attrs, text, [], -1⟩)) := by
  unfold Tr.newId Tr.put
  rcases freeOf_cases T.nodes with ⟨i, h1, h2⟩ | ⟨h1, h2⟩
  · have := add_free hT hO hs h1 h2 tag text av attrs ha hn h1c
    rw [h1, if_pos (by omega), if_pos (by omega), Int.toNat_natCast]
    exact this
  · have := add_full hT hO hs (hr h2) h1 tag text av attrs ha hn h1c
    rw [h1, if_neg (by omega), if_neg (by omega)]
    exact this
theorem WF.newId_ne {T : Tr} {d : Nat → Nat} (hw : WF T d) : T.newId ≠ 0 := by
  obtain ⟨n, h1, _, h3, _⟩ := T.put_at ⟨0, [], ByteArray.empty, [], -1⟩
  obtain ⟨r, r1, _⟩ := hw.root
  intro h0
  have : n = 0 := by omega
  exact h3 r (this ▸ r1)
def NewIs (w : World) (T : Tr) (e : Ending) (w' : World) : Prop := ∃ tb own ptr, e = .returned (.tuple #[.pointer (some ⟨tb, 0, none⟩), .int .i64 0]) ∧ TreeAt w' own ptr tb T ∧ Owned own w' ∧ Ext w w' ∧ (∀ b, own b ≠ none → w.heap.size ≤ b)
def hostOf (cap deep : Int) : Tr := ⟨cap, deep, 1, [some ⟨1, [], ByteArray.empty, [], -1⟩]⟩
theorem hostOf_put (cap deep : Int) : (Tr.mk cap deep 0 []).put ⟨1, [], ByteArray.empty, [], -1⟩ = hostOf cap deep := rfl
theorem hostOf_wf (cap deep : Int) (h1 : 1 ≤ cap) (h2 : cap ≤ 2000) (h3 : 0 ≤ deep) (h4 : deep ≤ 40) : WF (hostOf cap deep) (fun _ => 0) := by
  have hz : ∀ (i : Nat) (nd : Nd), (hostOf cap deep).nodes[i]? = some (some nd) → nd = ⟨1, [], ByteArray.empty, [], -1⟩ := by
    intro i nd h
    have h' : [some (⟨1, [], ByteArray.empty, [], -1⟩ : Nd)][i]? = some (some nd) := h
    cases i with
    | zero => simp at h'; exact h'.symm
    | succ i => simp at h'
  refine ⟨⟨by show 0 ≤ cap; omega, h2, h3, h4, by show (0 : Int) ≤ 1; omega, by show 1 ≤ cap; omega, by simp [hostOf]⟩, ⟨_, rfl, rfl, rfl⟩, fun i nd _ => h3, fun i nd h => .inl ⟨by rw [hz i nd h], rfl⟩, fun i nd h => ?_, fun i nd h => ?_, by simp [hostOf]⟩
  · rw [hz i nd h]; exact ⟨List.nodup_nil, fun k hk => by simp at hk⟩
  · rw [hz i nd h]; exact ⟨by decide, by decide, fun h => rfl⟩
theorem fresh_tree (w : World) (cap deep : Int) : ∃ own : Ow, (∀ b, own b = if b = w.heap.size then some (0, 0) else none) ∧
    TreeAt (w.alloc (.cells #[.int .i64 cap, .int .i64 deep, .int .i64 0, .slice none 0 0] 90)) own (fun _ => 0) w.heap.size ⟨cap, deep, 0, []⟩ ∧ Owned own (w.alloc (.cells #[.int .i64 cap, .int .i64 deep, .int .i64 0, .slice none 0 0] 90)) := by
  refine ⟨fun b => if b = w.heap.size then some (0, 0) else none, fun b => rfl, ⟨⟨.slice none 0 0, heap_alloc_new _ _, if_pos rfl, ⟨rfl, .inl ⟨rfl, none, rfl⟩⟩⟩, fun i nd h => by simp at h⟩, fun b hb => ?_⟩
  have hb' : (if b = w.heap.size then some ((0 : Nat), (0 : Nat)) else none) ≠ none := hb
  split at hb'
  · simp; omega
  · exact absurd rfl hb'

theorem New_ok (cap deep : Int) (h1 : 1 ≤ cap) (h2 : cap ≤ 2000) (h3 : 0 ≤ deep) (h4 : deep ≤ 40) (w : World) :
    Calls Tryz.prog 21 #[.int .i64 cap, .int .i64 deep] w (NewIs w (hostOf cap deep)) := by
  obtain ⟨own, ho, hT, hO⟩ := fresh_tree w cap deep
  have HO := qh ho
  have hc := add_any_d hT hO ⟨by show 0 ≤ cap; omega, h2, h3, h4, by show (0 : Int) ≤ 0; omega, by show 0 ≤ cap; omega, by simp⟩ (fun _ => by simp) 1 ByteArray.empty (.slice none 0 0) [] ⟨rfl, none, 0, rfl, Nat.le_refl _, fun _ => ⟨rfl, rfl⟩, fun a h => by cases h⟩ (by simp) (attrCells_one [])
  rw [hostOf_put] at hc
  have HC := qh hc
  clear ho hT hO hc
  go_enter Tryz.func21, Tryz.ntmps21
  go_wp2_with fail
  refine HC.out.mono ?_
  rintro e w1 ⟨rfl, own', ptr', hT', hS⟩
  go_wp2_with fail
  go_ret2
  refine ⟨w.heap.size, own', ptr', rfl, hT', hS.owned, ?_, fun b hb => ?_⟩
  · refine ⟨hS.os, hS.tape, hS.output, Nat.le_trans (by simp) hS.size, fun b hb => ?_⟩
    rw [hS.rest b (by simp; omega) (by rw [HO.out]; rw [if_neg (by omega)])]
    exact Below.heap_alloc _ _ _ hb
  · rcases Nat.lt_or_ge b w.heap.size with hlt | hge
    · rw [hS.same b (by simp; omega), HO.out, if_neg (by omega)] at hb
      exact absurd rfl hb
    · exact hge
def TwoAfter (own : Ow) (w : World) (tb : Nat) (id : Int) (T' : Tr) (e : Ending) (w' : World) : Prop := e = .returned (.tuple #[.int .i64 id, .int .i64 0]) ∧ After own w tb T' w'
theorem room_yes {w : World} {own : Ow} {ptr : Nat → Nat} {tb : Nat} {T : Tr} (hT : TreeAt w own ptr tb T) (hs : Small T) (n : Int) (h0 : 0 ≤ n) (h1 : n ≤ T.cap - T.count) :
    Calls Tryz.prog 44 #[.pointer (some ⟨tb, 0, none⟩), .int .i64 n] w (RBool true w) := by
  have h := room_any_d hT hs n h0 (by have := hs.cap1; have := hs.count0; omega)
  rw [decide_eq_true h1] at h
  exact h
def RIns (p : Nat → Prop) (w : World) (n : Nat) (ys : List Value) (e : Ending) (w' : World) : Prop :=
  ∃ v' row, e = .returned v' ∧ RowP w' (fun g => p g ∨ w.heap.size ≤ g) 3 1 v' n ys ∧ w.grownBy w' row ∧ ∀ k, row = some k → p k

theorem cell_one_new' {w : World} {b : Nat} {x : Value} (h : w.cell? ⟨b, 0, none⟩ = some x) : ∀ (j : Nat) u, [x][j]? = some u → w.cell? (Addr.add ⟨b, 0, none⟩ j) = some u := by
  intro j u hj
  match j, hj with
  | 0, hj => simpa [Addr.add, h] using hj

theorem insert_end {w : World} {p : Nat → Prop} {v : Value} {n : Nat} {xs : List Value} (hr : RowP w p 3 1 v n xs) (hn : n ≤ 60000) {b : Nat} {x : Int} (hx : w.cell? ⟨b, 0, none⟩ = some (.int .i64 x)) :
    Calls Tryz.prog 82 #[v, .int .i64 n, .slice (some ⟨b, 0, none⟩) 1 1] w (RIns p w (n + 1) (xs ++ [.int .i64 x])) := by
  obtain ⟨ao, cap, rfl, hc⟩ := hr.rd.len_of
  obtain ⟨i0, hi, hz0, hz1, hz2⟩ := info_parts infoI
  have Hi := qh hi
  have Hz0 := qh hz0
  have Hz1 := qh hz1
  have Hz2 := qh hz2
  have HR := qh hr
  have HX := qh hx
  have HN := qh hn
  have hcm : cap ≤ 9223372036854775807 := by
    rcases hr.2 with ⟨_, a, e⟩ | ⟨g, cap', cur, e, _, _, _, h, _⟩
    · cases e; omega
    · cases e; unfold maxLen at h; omega
  clear hi hz0 hz1 hz2 hr hx
  by_cases he : cap = n
  all_goals
    go_enter Tryz.func82, Tryz.ntmps82
    go_wp2_with (at_builtin; refine wpList_append_row rfl _ _ 62 rfl 3 i0 (.int .i64 0) 1 8 Tryz.underlying62 Hi.out Hz0.out Hz1.out Hz2.out rfl (by decide) p (.slice ao n cap) n xs rfl HR.out ⟨b, 0, none⟩ 1 1 [.int .i64 x] rfl rfl ?_ ?_ (by decide) ?_ ?_ ?_)
  all_goals first
    | exact cell_one_new' HX.out
    | (simp [Value.oneCell']; done)
    | (unfold maxLen; omega)
    | omega
    | skip
  all_goals
    intro v' w1 row h1 h2 h3
    go_wp2
    go_ret
    exact ⟨_, row, rfl, h1, h2, h3⟩
theorem kids_plain {w W w3 : World} {own0 own : Ow} {ptr : Nat → Nat} {tb : Nat} {T : Tr} (h0 : Step own0 w own W) (hT : TreeAt W own ptr tb T) {p : Nat} {pd : Nd} (hp : T.nodes[p]? = some (some pd)) (ks : List Int)
    (hpw : ptr p < w.heap.size → own0 (ptr p) ≠ none) (h00 : ∀ b, b < w.heap.size → own b = some (4, p) → own0 b ≠ none)
    {v : Value} {row : Option Nat} (hr : RowP w3 (fun g => own g = some (4, p) ∨ W.heap.size ≤ g) 3 1 v ks.length (ks.map (Value.int .i64))) (hg : W.grownBy w3 row) (hrow : ∀ k, row = some k → own k = some (4, p)) :
    ∃ own1, Step own0 w own1 (w3.setCell ⟨ptr p, 3, none⟩ v) ∧ TreeAt (w3.setCell ⟨ptr p, 3, none⟩ v) own1 ptr tb { T with nodes := T.nodes.set p (some { pd with kids := ks }) } ∧ (∀ b x, own b = some x → own1 b = some x) := by
  have hO := h0.owned
  obtain ⟨av, kv, b1, b2, b3, b4⟩ := hT.node p pd hp
  have hsz := hg.size
  -- the row's own block
  obtain ⟨rb, hr1, hr2⟩ : ∃ rb : Option Nat, RowP w3 (fun g => rb = some g) 3 1 v ks.length (ks.map (Value.int .i64)) ∧ ∀ k, rb = some k → (own k = some (4, p) ∨ W.heap.size ≤ k) ∧ k < w3.heap.size := by
    rcases hr.2 with q | ⟨g, cap, cur, q1, q2, q3, q4⟩
    · exact ⟨none, ⟨hr.1, .inl q⟩, fun k hk => by cases hk⟩
    · exact ⟨some g, ⟨hr.1, .inr ⟨g, cap, cur, q1, rfl, q3, q4⟩⟩, fun k hk => by cases hk; exact ⟨q2, (Array.getElem?_eq_some_iff.1 q3).1⟩⟩
  let own1 : Ow := fun b => if b < W.heap.size then own b else if rb = some b then some (4, p) else none
  have e1 : ∀ b, b < W.heap.size → own1 b = own b := fun b hb => if_pos hb
  have e2 : ∀ b x, own b = some x → own1 b = some x := fun b x hb => (e1 b (hO b (by simp [hb]))).trans hb
  have hpl := hO (ptr p) (by simp [b2])
  have keep : ∀ b x, own b = some x → x ≠ (4, p) → w3.heap[b]? = W.heap[b]? := fun b x hb hx =>
    hg.block b (hO b (by simp [hb])) (fun h => by have := hrow b h.symm; rw [hb] at this; exact hx (Option.some.inj this))
  have hb3 : w3.heap[ptr p]? = _ := (keep _ _ b2 (by simp)).trans b1
  have other : ∀ b x, own b = some x → x ≠ (4, p) → b ≠ ptr p → (w3.setCell ⟨ptr p, 3, none⟩ v).heap[b]? = W.heap[b]? := fun b x hb hx hn =>
    (heap_setCell_other _ hn).trans (keep b x hb hx)
  refine ⟨own1, ?_, ?_, e2⟩
  · have hst : Step own0 w own1 w3 := by
      refine ⟨hg.os.trans h0.os, hg.tape.trans h0.tape, hg.output.trans h0.output, Nat.le_trans h0.size hg.size, fun b hb hn => ?_, fun b hb => (e1 b (Nat.lt_of_lt_of_le hb h0.size)).trans (h0.same b hb), fun b hb => ?_⟩
      · rw [hg.block b (Nat.lt_of_lt_of_le hb h0.size) (fun h => h00 b hb (hrow b h.symm) hn)]
        exact h0.rest b hb hn
      · have hb' : (if b < W.heap.size then own b else if rb = some b then some (4, p) else none) ≠ none := hb
        split at hb'
        · omega
        · split at hb'
          · rename_i h; exact (hr2 b h).2
          · exact absurd rfl hb'
    exact hst.setCell hpw _
  · refine hT.setNode (nd' := { pd with kids := ks }) hp ⟨av, v, by rw [heap_setCell_same hb3]; rfl, e2 _ _ b2, ?_, ?_⟩ ?_
    · exact RowP.move b3 fun g hg' => ⟨other g _ hg' (by simp) (fun e => by rw [e, b2] at hg'; cases hg'), e2 g _ hg'⟩
    · refine RowP.move hr1 fun g hg' => ?_
      obtain ⟨k1, k2⟩ := hr2 g hg'
      have hne : g ≠ ptr p := fun e => by
        rcases k1 with k1 | k1
        · rw [e, b2] at k1; cases k1
        · omega
      refine ⟨heap_setCell_other _ hne, ?_⟩
      show (if g < W.heap.size then _ else _) = _
      rcases k1 with k1 | k1
      · rw [if_pos (hO g (by simp [k1]))]; exact k1
      · rw [if_neg (by omega), if_pos hg']
    · intro b x hb hx
      have hx4 : x ≠ (4, p) := fun e => by rw [e] at hx; exact hx (by simp) rfl
      have hbp : b ≠ ptr p := fun e => by rw [e, b2] at hb; cases hb; exact hx (by simp) rfl
      exact ⟨other b x hb hx4 hbp, (e2 b x hb).trans hb.symm⟩
theorem TreeAt.setParent {w : World} {own : Ow} {ptr : Nat → Nat} {tb : Nat} {T : Tr} (hT : TreeAt w own ptr tb T) {k : Nat} {kd : Nd} (hk : T.nodes[k]? = some (some kd)) (q : Int) :
    TreeAt (w.setCell ⟨ptr k, 4, none⟩ (.int .i64 q)) own ptr tb { T with nodes := T.nodes.set k (some { kd with parent := q }) } := by
  obtain ⟨av, kv, b1, b2, b3, b4⟩ := hT.node k kd hk
  have other : ∀ b x, own b = some x → b ≠ ptr k → (w.setCell ⟨ptr k, 4, none⟩ (.int .i64 q)).heap[b]? = w.heap[b]? := fun b x hb hn => heap_setCell_other _ hn
  refine hT.setNode (nd' := { kd with parent := q }) hk ⟨av, kv, by rw [heap_setCell_same b1]; rfl, b2, RowP.move b3 fun g hg => ⟨other g _ hg (fun e => by rw [e, b2] at hg; cases hg), hg⟩, RowP.move b4 fun g hg => ⟨other g _ hg (fun e => by rw [e, b2] at hg; cases hg), hg⟩⟩ ?_
  intro b x hb hx
  exact ⟨other b x hb (fun e => by rw [e, b2] at hb; cases hb; exact hx (by simp) rfl), rfl⟩
def ErrAfter (own : Ow) (w : World) (tb : Nat) (er : Int) (T' : Tr) (e : Ending) (w' : World) : Prop := e = .returned (.int .i64 er) ∧ After own w tb T' w'
def InsertsAt (at' : Nat) (l : List Int) : Prop := ∀ (W : World) (p : Nat → Prop) (v : Value) (b : Nat) (x : Int), RowP W p 3 1 v l.length (l.map (Value.int .i64)) → l.length ≤ 60000 → at' ≤ l.length → W.heap[b]? = some (.cells #[.int .i64 x] 3 (0, 0)) → (¬ p b) →
  Calls Tryz.prog 82 #[v, .int .i64 at', .slice (some ⟨b, 0, none⟩) 1 1] W (RIns p W (l.length + 1) ((l.take at' ++ [x] ++ l.drop at').map (Value.int .i64)))
theorem Insert_ok {w : World} {own : Ow} {ptr : Nat → Nat} {tb : Nat} {T : Tr} (hT : TreeAt w own ptr tb T) (hO : Owned own w) {d : Nat → Nat} (hw : WF T d) {p k at' : Nat} {pd kd : Nd} (hp : T.nodes[p]? = some (some pd)) (hk : T.nodes[k]? = some (some kd))
    (htag : (pd.tag == 0) = false) (hk0 : k ≠ 0) (hpar : kd.parent = -1) (hat : at' ≤ pd.kids.length) (hkl : pd.kids.length ≤ 60000) (hin : T.within p k = false) (hdp : (d p : Int) + 1 + T.hgt 50 k ≤ T.deep) (hsl : InsertsAt at' pd.kids) :
    Calls Tryz.prog 47 #[.pointer (some ⟨tb, 0, none⟩), .int .i64 p, .int .i64 at', .int .i64 k] w (ErrAfter own w tb 0 (T.link p at' k pd kd)) := by
  obtain ⟨avp, kvp, bp, op, _, hkp⟩ := hT.node p pd hp
  obtain ⟨avk, kvk, bk, ok, _, _⟩ := hT.node k kd hk
  obtain ⟨nv, hb, hob, _⟩ := hT.head
  obtain ⟨ka, kcap, rfl, kc1, kc2⟩ := hkp.len
  have hpk : p ≠ k := fun e => by
    subst e
    have : T.within p p = true := by
      show isIn T p 50 p = true
      rw [isIn_step _ _ hp, if_pos rfl]
    rw [this] at hin; cases hin
  have cp0 := cellOf bp (i := 0) (v := .int .i64 pd.tag) rfl
  have cp3 := cellOf bp (i := 3) (v := .slice ka pd.kids.length kcap) rfl
  have ck4 := cellOf bk (i := 4) (v := .int .i64 (-1)) (by rw [← hpar]; rfl)
  have ct1 := cellOf hb (i := 1) (v := .int .i64 T.deep) rfl
  have hkb : ((k : Int) == 0) = false := by simp; omega
  have hpb : (p : Int) ≤ 2000 := by have := (List.getElem?_eq_some_iff.1 hp).1; have := hw.small.len; omega
  obtain ⟨hh1, hh2⟩ := T.hgt_le 50 k
  have hd1 := hw.deep p pd hp
  have hd2 := hw.small.deep1
  have hpkb : ptr p ≠ ptr k := fun e => by rw [e, ok] at op; simp at op; omega
  have HP := qh (Tr.get_of hp)
  have HK := qh (Tr.get_of hk)
  have HNP := qh hp
  have HNK := qh hk
  have HW := qh hw
  have HT := qh hT
  have HO := qh hO
  have HIN := qh hin
  have HSL := qh hsl
  have HBP := qh bp
  have HBK := qh bk
  have HOP := qh op
  have HOK := qh ok
  have HKP := qh hkp
  have HPK := qh hpk
  have HPKB := qh hpkb
  have ct1' := fun u : ExtOf w => u.ext.cell ct1
  clear hp hk hw hT hO hin bp bk hb hkp hpar hk0 kc2 hsl op ok hob hpk hpkb
  go_enter Tryz.func47, Tryz.ntmps47
  go_wp2_with fail
  refine (get_some HT.out HP.out).mono ?_
  rintro e w' ⟨rfl, rfl⟩
  go_wp2_with fail
  refine (get_some HT.out HK.out).mono ?_
  rintro e w' ⟨rfl, rfl⟩
  go_wp2_with fail
  refine (within_any HT.out HW.out HNP.out (by omega)).mono ?_
  rintro e w' ⟨rfl, rfl⟩
  rw [HIN.out]
  go_wp2_with fail
  refine wp_region_ext (by kernel_rfl) (by kernel_rfl) ?_
  repeat (go_big_quiet_step (first
    | (go_at_call 43; exact inExt (RSame.val (Depth_some (HT.out.keep (ExtOf.ext _ |>.keep HO.out)) HW.out HNP.out)))
    | (go_at_call 81; exact inExt (RSame.val (Height_fuel (HT.out.keep (ExtOf.ext _ |>.keep HO.out)) HW.out 50 k kd HNK.out (by omega) (by omega))))))
  refine wpQuiet_nil ?_
  rintro _ ⟨u, rfl⟩
  obtain ⟨wu, xu⟩ := u
  show Exit.then _ _ Exit.normal _ wu
  clear ct1'
  replace cp3 := xu.cell cp3
  have XU := qh xu
  clear xu cp0 ck4 ct1
  go_wp2_with fail
  have hOu : Owned own wu := fun b hb => Nat.lt_of_lt_of_le (HO.out b hb) XU.out.size
  have hTu := HT.out.keep (XU.out.keep HO.out)
  have hins := HSL.out (wu.alloc (.cells #[.int .i64 k] 3)) (fun g => own g = some (4, p)) (.slice ka pd.kids.length kcap) wu.heap.size k
    (RowP.ext (RowP.move HKP.out fun g hg => ⟨XU.out.keep HO.out g (by simp [hg]), hg⟩) ((Ext.refl _).alloc _)) hkl hat (heap_alloc_new _ _) (fun h => by have := hOu wu.heap.size (by simp [h]); omega)
  refine hins.mono ?_
  clear hins
  rintro e w3 ⟨v', row, rfl, hr, hg, hrow⟩
  replace hrow : ∀ b, row = some b → own b = some (4, p) := hrow
  have hW : Step own w own (wu.alloc (.cells #[.int .i64 k] 3)) := (XU.out.step HO.out).ext ((Ext.refl _).alloc _)
  have hTW := hTu.keep (((Ext.refl wu).alloc (.cells #[.int .i64 k] 3)).keep hOu)
  obtain ⟨own1, hs1, hT1, hsame⟩ := kids_plain hW hTW HNP.out (pd.kids.take at' ++ [(k : Int)] ++ pd.kids.drop at') (fun _ => by rw [HOP.out]; simp) (fun b _ hb => by rw [hb]; simp) (by
      have hlen : (pd.kids.take at' ++ [(k : Int)] ++ pd.kids.drop at').length = pd.kids.length + 1 := by simp; omega
      rw [hlen]; simpa using hr) hg hrow
  have hkd : (T.nodes.set p (some { pd with kids := pd.kids.take at' ++ [(k : Int)] ++ pd.kids.drop at' }))[k]? = some (some kd) := by
    rw [List.getElem?_set, if_neg HPK.out]; exact HNK.out
  have hT2 := hT1.setParent hkd (p : Int)
  have hs2 := hs1.setCell (p := ⟨ptr k, 4, none⟩) (fun _ => by show own (ptr k) ≠ none; rw [HOK.out]; simp) (.int .i64 p)
  have hpl := HO.out (ptr p) (by rw [HOP.out]; simp)
  have hkl' := HO.out (ptr k) (by rw [HOK.out]; simp)
  have hsz := XU.out.size
  have hsame3 : ∀ b x, own b = some x → x ≠ (4, p) → w3.heap[b]? = w.heap[b]? := fun b x hb hx => by
    have hbl := HO.out b (by simp [hb])
    rw [hg.block b (by simp; omega) (fun h => by have := hrow b h.symm; rw [hb] at this; exact hx (Option.some.inj this)), Below.heap_alloc _ _ _ (by omega)]
    exact Below.block XU.out b hbl
  have bp3 := (hsame3 _ _ HOP.out (by simp)).trans HBP.out
  have bk3 := (hsame3 _ _ HOK.out (by simp)).trans HBK.out
  have cp3' := cellOf bp3 (i := 3) (v := .slice ka pd.kids.length kcap) rfl
  have fp3 := freeOf bp3 3
  have ck4' := cellOf bk3 (i := 4) (v := .int .i64 kd.parent) rfl
  have fk4 := freeOf bk3 4
  have n1 := HPKB.out
  have n2 := Ne.symm HPKB.out
  obtain ⟨va, vcap, hv, _⟩ := hr.rd.len_of
  have HS2 := qh hs2
  have HT2 := qh hT2
  clear hs1 hT1 hsame hkd hT2 hs2 hsame3 bp3 bk3 hr hg hrow hW hTW hTu hOu cp3
  rw [hv] at HS2 HT2 ⊢
  clear hv
  go_wp2
  go_ret
  exact ⟨rfl, own1, ptr, HT2.out, HS2.out⟩

theorem insertsAt_end (l : List Int) : InsertsAt l.length l := by
  intro W p v b x hr hl _ hx0 _
  have hx := cellOf hx0 (i := 0) (v := .int .i64 x) rfl
  have h := insert_end hr hl hx
  have e : (l.take l.length ++ [x] ++ l.drop l.length).map (Value.int .i64) = l.map (Value.int .i64) ++ [.int .i64 x] := by simp
  rw [e]; exact h
theorem RowP.len_of' {w : World} {p : Nat → Prop} {e size : Nat} {v : Value} {n : Nat} {xs : List Value} (h : RowP w p e size v n xs) : ∃ a cap, v = .slice a n cap ∧ n ≤ cap := h.rd.len_of
mutual
def PN.high : PN → Nat
  | .mk _ _ _ ks => PN.highs ks
def PN.highs : List PN → Nat
  | [] => 0
  | k :: r => max (PN.high k + 1) (PN.highs r)
end
mutual
def PN.anew : PN → PN
  | .mk t a s ks => .mk t a (anewB s) (PN.anews ks)
def PN.anews : List PN → List PN
  | [] => []
  | k :: r => PN.anew k :: PN.anews r
end
theorem PN.high_eq (n : PN) : n.high = PN.highs n.kids := by cases n; rfl
theorem PN.anew_eq (n : PN) : n.anew = .mk n.tag n.attrs (anewB n.text) (PN.anews n.kids) := by cases n; rfl
theorem PN.anews_eq (l : List PN) : PN.anews l = l.map PN.anew := by
  induction l with
  | nil => rfl
  | cons k r ih => simp only [PN.anews, List.map_cons, ih]
theorem PN.ok_eq (n : PN) : n.ok = (!n.bad && decide ((anewB n.text).size ≤ 8192) && PN.oks n.kids) := by cases n; rfl
theorem PN.oks_mem {l : List PN} (h : PN.oks l = true) {k : PN} (hk : k ∈ l) : k.ok = true := by
  induction l with
  | nil => cases hk
  | cons x r ih =>
    simp only [PN.oks, Bool.and_eq_true] at h
    rcases List.mem_cons.1 hk with rfl | hk
    · exact h.1
    · exact ih h.2 hk
theorem PN.ok_bad {n : PN} (h : n.ok = true) : n.bad = false := by
  rw [PN.ok_eq] at h; simp at h; exact h.1.1
theorem PN.ok_kids {n : PN} (h : n.ok = true) : PN.oks n.kids = true := by
  rw [PN.ok_eq] at h; simp at h; exact h.2
theorem PN.bad_tag {n : PN} (h : n.bad = false) : 0 ≤ n.tag ∧ n.tag ≤ 16 ∧ (n.tag = 0 → n.kids = [] ∧ n.attrs = []) ∧ (n.tag ≠ 0 → n.text.size = 0) := by
  unfold PN.bad at h
  by_cases h0 : n.tag = 0
  · rw [if_pos h0] at h
    simp at h
    exact ⟨by omega, by omega, fun _ => ⟨h.2, h.1⟩, fun e => absurd h0 e⟩
  · rw [if_neg h0] at h
    simp at h
    exact ⟨by omega, by omega, fun e => absurd e h0, fun _ => by rw [h.2]; rfl⟩

theorem PN.into_eq (T : Tr) (n : PN) : PN.into T n = PN.intos T.newId (T.put ⟨n.tag, n.attrs, anewB n.text, [], -1⟩) n.kids := by cases n; rfl
theorem look_of {T : Tr} {i : Nat} {nd : Nd} (h : T.nodes[i]? = some (some nd)) : T.look i = nd := by
  unfold Tr.look; rw [Tr.get_of h]; rfl
structure Put (T T' : Tr) (d' : Nat → Nat) (i : Nat) (n : PN) (sz hi : Nat) : Prop where
  wf : WF T' d'
  node : ∃ nd, T'.nodes[i]? = some (some nd) ∧ nd.parent = -1
  high : T'.height i = hi
  plain : T'.plain i = n
  old : ∀ (j : Nat) (x : Nd), j ≠ i → T.nodes[j]? = some (some x) → T'.nodes[j]? = some (some x)
  count : T'.count = T.count + sz
  cap : T'.cap = T.cap
  deep : T'.deep = T.deep
theorem WF.put_one {T : Tr} {d : Nat → Nat} (hw : WF T d) {n : PN} (hb : n.bad = false) (hroom : T.count + 1 ≤ T.cap) :
    ∃ (d' : Nat → Nat) (i : Nat), T.newId = (i : Int) ∧ i ≠ 0 ∧ (∀ x : Nd, T.nodes[i]? ≠ some (some x)) ∧ (T.put ⟨n.tag, n.attrs, anewB n.text, [], -1⟩).nodes[i]? = some (some ⟨n.tag, n.attrs, anewB n.text, [], -1⟩) ∧
      Put T (T.put ⟨n.tag, n.attrs, anewB n.text, [], -1⟩) d' i (.mk n.tag n.attrs (anewB n.text) []) 1 0 := by
  obtain ⟨b0, b1, b2, b3⟩ := PN.bad_tag hb
  obtain ⟨i, h1, h2, h3, h4, h5, h6, h7, h8⟩ := T.put_at ⟨n.tag, n.attrs, anewB n.text, [], -1⟩
  have hne := hw.newId_ne
  have hp := hw.put ⟨n.tag, n.attrs, anewB n.text, [], -1⟩ rfl rfl b0 b1 hroom hne
  refine ⟨_, i, h1, by omega, h3, h2, ⟨hp, ⟨_, h2, rfl⟩, ?_, ?_, fun j x _ hj => h4 j x hj, rfl, rfl, rfl⟩⟩
  · rw [hp.height_eq h2]; rfl
  · rw [hp.plain_eq h2]; rfl

def PutsOk (n : PN) : Prop := ∀ (T : Tr) (d : Nat → Nat), WF T d → T.count + n.size ≤ T.cap → (n.high : Int) ≤ T.deep → ∃ (d' : Nat → Nat) (i : Nat), T.newId = (i : Int) ∧ i ≠ 0 ∧ (∀ x : Nd, T.nodes[i]? ≠ some (some x)) ∧ Put T (PN.into T n) d' i n.anew n.size n.high
theorem intos_ok : ∀ (ks : List PN) (hks : ∀ k ∈ ks, PutsOk k) (T : Tr) (d : Nat → Nat) (i : Nat) (nd : Nd), WF T d → T.nodes[i]? = some (some nd) → nd.parent = -1 → (nd.tag ≠ 0 ∨ ks = []) → T.count + PN.sizes ks ≤ T.cap → (PN.highs ks : Int) ≤ T.deep → (∀ x ∈ nd.kids, 0 ≤ x) →
    ∃ (d' : Nat → Nat) (nd' : Nd), (PN.intos i T ks).nodes[i]? = some (some nd') ∧ Put T (PN.intos i T ks) d' i (.mk nd.tag nd.attrs nd.text (nd.kids.map T.plain ++ PN.anews ks)) (PN.sizes ks) (max (T.height i).toNat (PN.highs ks)) := by
  intro ks
  induction ks with
  | nil =>
    intro hks T d i nd hw hi hp ht hc hh hx
    refine ⟨d, nd, hi, ⟨hw, ⟨nd, hi, hp⟩, ?_, ?_, fun j x _ hj => hj, ?_, rfl, rfl⟩⟩
    · have := hgt_nn T 50 hi
      show T.height i = ((max (T.height i).toNat 0 : Nat) : Int)
      have h0 : 0 ≤ T.height i := this
      omega
    · show T.plain i = _
      rw [hw.plain_eq hi]; simp [PN.anews]
    · show T.count = T.count + ((0 : Nat) : Int); simp
  | cons k r ih =>
    intro hks T d i nd hw hi hp ht hc hh hx
    simp only [PN.sizes, PN.highs] at hc hh
    have hkpos := k.size_pos
    obtain ⟨d1, m, hm1, hm0, hm2, hP⟩ := hks k (by simp) T d hw (by omega) (by omega)
    have him : i ≠ m := fun e => hm2 nd (e ▸ hi)
    have hi1 : (PN.into T k).nodes[i]? = some (some nd) := hP.old i nd him hi
    obtain ⟨kd, hk1, hk2⟩ := hP.node
    have ht' : nd.tag ≠ 0 := by rcases ht with h | h; exact h; cases h
    obtain ⟨d2, hw2, hh2, hp2⟩ := hP.wf.attach hi1 hk1 ht' hm0 hk2 hp him (by rw [hP.high, hP.deep]; omega)
    have hjoin : (PN.into T k).join i T.newId = (PN.into T k).attach i m nd kd := by
      unfold Tr.join
      rw [hm1, Int.toNat_natCast, Int.toNat_natCast, look_of hi1, look_of hk1]
    have hg := fun j => Tr.set2_get (pd' := { nd with kids := nd.kids ++ [(m : Int)] }) (kd' := { kd with parent := i }) hi1 hk1 j
    have hi2 : ((PN.into T k).attach i m nd kd).nodes[i]? = some (some { nd with kids := nd.kids ++ [(m : Int)] }) := by
      show (Tr.set2 _ i m _ _).nodes[i]? = _
      rw [hg, if_neg him, if_pos rfl]
    -- heights and plains of the kids that were there
    have hold := plain_same (T' := PN.into T k) hw hi fun j jd hj _ => by
      refine ⟨jd, hP.old j jd (fun e => hm2 jd (e ▸ hj)) hj, rfl, rfl, rfl, rfl⟩
    have hcount : ((PN.into T k).attach i m nd kd).count = T.count + k.size := hP.count
    have hcap : ((PN.into T k).attach i m nd kd).cap = T.cap := hP.cap
    have hdeep : ((PN.into T k).attach i m nd kd).deep = T.deep := hP.deep
    obtain ⟨d3, nd3, hn3, hP3⟩ := ih (fun x hx' => hks x (by simp [hx'])) _ d2 i _ hw2 hi2 hp (.inl ht') (by rw [hcount, hcap]; omega) (by rw [hdeep]; omega) (fun x hx' => by
      rcases List.mem_append.1 hx' with h | h
      · exact hx x h
      · simp at h; omega)
    have e0 : PN.intos i T (k :: r) = PN.intos i ((PN.into T k).attach i m nd kd) r := by
      simp only [PN.intos]; rw [hjoin]
    rw [e0]
    refine ⟨d3, nd3, hn3, ⟨hP3.wf, hP3.node, ?_, ?_, fun j x hj hjx => ?_, ?_, hP3.cap.trans hcap, hP3.deep.trans hdeep⟩⟩
    · rw [hP3.high, hh2, hP.high, hold.2]
      simp only [PN.highs]
      have h0 : 0 ≤ T.height i := hgt_nn T 50 hi
      omega
    · rw [hP3.plain]
      have e1 := hw2.plain_eq hi2
      rw [hp2] at e1
      have e2 : (nd.kids ++ [(m : Int)]).map ((PN.into T k).attach i m nd kd).plain = nd.kids.map T.plain ++ [k.anew] := by
        have e3 : nd.kids.map (PN.into T k).plain = nd.kids.map T.plain := by
          have q1 := hP.wf.plain_eq hi1
          rw [hold.1, hw.plain_eq hi] at q1
          exact (PN.mk.inj q1).2.2.2.symm
        have e4 := (PN.mk.inj e1).2.2.2
        show List.map ((PN.into T k).attach i m nd kd).plain (nd.kids ++ [(m : Int)]) = _
        rw [← e3, ← hP.plain]
        exact e4.symm
      show PN.mk nd.tag nd.attrs nd.text ((nd.kids ++ [(m : Int)]).map _ ++ PN.anews r) = _
      rw [e2]
      simp [PN.anews]
    · have hjm : j ≠ m := fun e => hm2 x (e ▸ hjx)
      refine hP3.old j x hj ?_
      show (Tr.set2 _ i m _ _).nodes[j]? = _
      rw [hg, if_neg hjm, if_neg hj]
      exact hP.old j x hjm hjx
    · rw [hP3.count, hcount]
      simp only [PN.sizes]
      push_cast; omega
theorem into_ok : ∀ n : PN, n.ok = true → PutsOk n := by
  refine PN.induct _ fun n ih hok T d hw hc hh => ?_
  have hb := PN.ok_bad hok
  have hkids := PN.ok_kids hok
  obtain ⟨b0, b1, b2, b3⟩ := PN.bad_tag hb
  rw [PN.size_eq] at hc
  obtain ⟨d1, i, h1, h0, h2, h3, hP⟩ := hw.put_one hb (by omega)
  obtain ⟨d2, nd2, hn2, hP2⟩ := intos_ok n.kids (fun k hk => ih k hk (PN.oks_mem hkids hk)) _ d1 i _ hP.wf h3 rfl (by
    by_cases e : n.tag = 0
    · exact .inr (b2 e).1
    · exact .inl e) (by rw [hP.count, hP.cap]; omega) (by rw [hP.deep]; rw [PN.high_eq] at hh; exact hh) (fun x hx => by cases hx)
  rw [PN.into_eq, h1]
  refine ⟨d2, i, rfl, h0, h2, ⟨hP2.wf, hP2.node, ?_, ?_, fun j x hj hjx => hP2.old j x hj (hP.old j x hj hjx), ?_, hP2.cap.trans hP.cap, hP2.deep.trans hP.deep⟩⟩
  · rw [hP2.high, hP.high, PN.high_eq]; simp
  · rw [hP2.plain, PN.anew_eq]; simp
  · rw [hP2.count, hP.count, PN.size_eq]; push_cast; omega
theorem ints_one (l : List Int) : ∀ u ∈ l.map (Value.int .i64), u.oneCell' = true := by
  intro u hu
  obtain ⟨x, _, rfl⟩ := List.mem_map.1 hu
  rfl
def laysIns_ren : Go.Shelf.Ren := ⟨fun | 21 => 82 | 27 => 122 | 28 => 123 | 35 => 158 | 39 => 185 | n => n, fun | 0 => 0 | 3 => 3 | 4 => 4 | 22 => 62 | n => n, fun | n => n⟩
theorem laysIns : Go.Proofs.Lays2.n21 Tryz.prog laysIns_ren := {
  mixed := by kernel_rfl
  f21 := Tryz.func82.trans (congrArg some (by kernel_rfl))
  f27 := Tryz.func122.trans (congrArg some (by kernel_rfl))
  f28 := Tryz.func123.trans (congrArg some (by kernel_rfl))
  f35 := Tryz.func158.trans (congrArg some (by kernel_rfl))
  f39 := Tryz.func185.trans (congrArg some (by kernel_rfl))
  t0 := Tryz.underlying0
  a0 := Tryz.isAgg0
  z0 := Tryz.sizeOf0
  v0 := Tryz.zeroValue0
  t3 := Tryz.underlying3
  a3 := Tryz.isAgg3
  z3 := Tryz.sizeOf3
  v3 := Tryz.zeroValue3
  t4 := Tryz.underlying4
  a4 := Tryz.isAgg4
  z4 := Tryz.sizeOf4
  v4 := Tryz.zeroValue4
  t22 := Tryz.underlying62
  a22 := Tryz.isAgg62
  z22 := Tryz.sizeOf62
  v22 := Tryz.zeroValue62
  i3 := by kernel_rfl }
def putMany (cur : Array Value) : Nat → List Value → Array Value
  | _, [] => cur
  | o, v :: r => putMany (cur.setIfInBounds o v) (o + 1) r
theorem putMany_size : ∀ (vs : List Value) (o : Nat) (cur : Array Value), (putMany cur o vs).size = cur.size
  | [], _, _ => rfl
  | v :: r, o, cur => by rw [putMany, putMany_size r]; simp
theorem putMany_get : ∀ (vs : List Value) (o : Nat) (cur : Array Value) (j : Nat), j < cur.size → (putMany cur o vs)[j]? = if o ≤ j ∧ j < o + vs.length then vs[j - o]? else cur[j]?
  | [], o, cur, j, hj => by rw [putMany, if_neg (by simp <;> omega)]
  | v :: r, o, cur, j, hj => by
    rw [putMany, putMany_get r (o + 1) _ j (by simpa using hj)]
    by_cases h1 : o + 1 ≤ j ∧ j < o + 1 + r.length
    · rw [if_pos h1, if_pos ⟨by omega, by simp; omega⟩]
      obtain ⟨k, rfl⟩ : ∃ k, j = o + 1 + k := ⟨j - (o + 1), by omega⟩
      rw [show o + 1 + k - (o + 1) = k by omega, show o + 1 + k - o = k + 1 by omega, List.getElem?_cons_succ]
    · rw [if_neg h1, Array.getElem?_setIfInBounds]
      by_cases h2 : o = j
      · subst h2
        rw [if_pos rfl, if_pos hj, if_pos ⟨Nat.le_refl _, by simp⟩, Nat.sub_self]; rfl
      · rw [if_neg h2, if_neg (by simp; omega)]
theorem heap_setCells_same {b : Nat} {t : TypeId} {fr : Nat × Nat} : ∀ (vs : List Value) (o : Nat) (w : World) (cur : Array Value), w.heap[b]? = some (.cells cur t fr) → (w.setCells b o vs).heap[b]? = some (.cells (putMany cur o vs) t fr)
  | [], _, _, _, h => h
  | v :: r, o, w, cur, h => heap_setCells_same r (o + 1) _ _ (heap_setCell_same h v)
theorem heap_setCells_far {b k : Nat} (hk : k ≠ b) : ∀ (vs : List Value) (o : Nat) (w : World), (w.setCells b o vs).heap[k]? = w.heap[k]?
  | [], _, _ => rfl
  | v :: r, o, w => (heap_setCells_far hk r (o + 1) _).trans (heap_setCell_other (p := ⟨b, o, none⟩) v hk)
theorem setCells_parts (b : Nat) : ∀ (vs : List Value) (o : Nat) (w : World), (w.setCells b o vs).os = w.os ∧ (w.setCells b o vs).tape = w.tape ∧ (w.setCells b o vs).output = w.output ∧ (w.setCells b o vs).heap.size = w.heap.size
  | [], _, _ => ⟨rfl, rfl, rfl, rfl⟩
  | v :: r, o, w => by
    have h := setCells_parts b r (o + 1) (w.setCell ⟨b, o, none⟩ v)
    refine ⟨h.1, h.2.1, h.2.2.1, h.2.2.2.trans ?_⟩
    simp [World.setCell]
theorem grown_setCells (b o : Nat) (vs : List Value) (w : World) : w.grownBy (w.setCells b o vs) (some b) := by
  obtain ⟨h1, h2, h3, h4⟩ := setCells_parts b vs o w
  exact ⟨h1, h2, h3, Nat.le_of_eq h4.symm, fun k _ hk => heap_setCells_far (fun e => hk (by rw [e])) vs o w⟩
theorem grown_trans {a b c : World} {row : Option Nat} (h : a.grownBy b row) (k : b.grownBy c row) : a.grownBy c row :=
  ⟨k.os.trans h.os, k.tape.trans h.tape, k.output.trans h.output, Nat.le_trans h.size k.size, fun x hx hr => (k.block x (Nat.lt_of_lt_of_le hx h.size) hr).trans (h.block x hx hr)⟩
theorem grown_drewN (w : World) (n : Nat) (row : Option Nat) : w.grownBy (w.drewN n) row := ⟨rfl, rfl, rfl, Nat.le_refl _, fun _ _ _ => rfl⟩
theorem RowP.some_ {w : World} {p : Nat → Prop} {e : TypeId} {v : Value} {n : Nat} {xs : List Value} (h : RowP w p e 1 v n xs) (hn : 0 < n) :
    ∃ g cap cur, v = .slice (some ⟨g, 0, none⟩) n cap ∧ p g ∧ w.heap[g]? = some (.cells cur e (0, 0)) ∧ n ≤ cap ∧ cap ≤ maxLen ∧ cur.size = cap ∧ xs.length = n ∧ ∀ j, j < n → cur[j]? = xs[j]? := by
  rcases h.2 with ⟨h0, _⟩ | ⟨g, cap, cur, h1, h2, h3, h4, h5, h6, h7⟩
  · omega
  · have hl := h.1
    rw [Nat.mul_one] at h6 h7 hl
    refine ⟨g, cap, cur, h1, h2, h3, h4, h5, h6, hl, fun j hj => ?_⟩
    rw [← h7, List.getElem?_take, if_pos hj]
    simp
theorem RowP.of_some {w : World} {p : Nat → Prop} {e g n cap : Nat} {cur : Array Value} {xs : List Value} (h2 : p g) (h3 : w.heap[g]? = some (.cells cur e (0, 0))) (h4 : n ≤ cap) (h5 : cap ≤ maxLen) (h6 : cur.size = cap) (hl : xs.length = n)
    (h7 : ∀ j, j < n → cur[j]? = xs[j]?) : RowP w p e 1 (.slice (some ⟨g, 0, none⟩) n cap) n xs := by
  refine ⟨by rw [Nat.mul_one]; exact hl, .inr ⟨g, cap, cur, rfl, h2, h3, h4, h5, by rw [Nat.mul_one]; exact h6, ?_⟩⟩
  rw [Nat.mul_one]
  apply List.ext_getElem?
  intro j
  rw [List.getElem?_take]
  by_cases hj : j < n
  · rw [if_pos hj, ← h7 j hj]; simp
  · rw [if_neg hj, List.getElem?_eq_none (by omega)]
theorem put_two (l : List Int) (cur : Array Value) (i : Nat) (x : Int) (hi : i < l.length) (hs : l.length + 1 ≤ cur.size) (h8 : ∀ j, j < i → cur[j]? = (l.map (Value.int .i64))[j]?) :
    ∀ j, j < l.length + 1 → (putMany (putMany cur (i + 1) ((l.map (Value.int .i64)).drop i)) i [.int .i64 x])[j]? = ((l.take i ++ [x] ++ l.drop i).map (Value.int .i64))[j]? := by
  intro j hj
  rw [putMany_get _ _ _ _ (by rw [putMany_size]; omega)]
  have e : (l.take i ++ [x] ++ l.drop i).map (Value.int .i64) = (l.map (Value.int .i64)).take i ++ (.int .i64 x :: (l.map (Value.int .i64)).drop i) := by simp
  rw [e]
  rcases Nat.lt_trichotomy j i with h | h | h
  · rw [if_neg (by simp; omega), putMany_get _ _ _ _ (by omega), if_neg (by omega), List.getElem?_append_left (by simp; omega), List.getElem?_take, if_pos h, h8 j h]
  · subst h
    rw [if_pos ⟨Nat.le_refl _, by simp⟩, Nat.sub_self, List.getElem?_append_right (by simp; omega)]
    have : j - ((l.map (Value.int .i64)).take j).length = 0 := by simp; omega
    rw [this]; rfl
  · rw [if_neg (by simp; omega), putMany_get _ _ _ _ (by omega), if_pos ⟨by omega, by simp; omega⟩, List.getElem?_append_right (by simp; omega)]
    have : j - ((l.map (Value.int .i64)).take i).length = j - (i + 1) + 1 := by simp; omega
    rw [this, List.getElem?_cons_succ]
theorem put_three (l : List Int) (i : Nat) (x : Int) (Z : Array Value) (hi : i < l.length) (hz : ((l.map (Value.int .i64)).take i).length + (l.length + 1 - i) ≤ (((l.map (Value.int .i64)).take i).toArray ++ Z).size) :
    ∀ j, j < l.length + 1 → (putMany (putMany (((l.map (Value.int .i64)).take i).toArray ++ Z) i [.int .i64 x]) (i + 1) ((l.map (Value.int .i64)).drop i))[j]? = ((l.take i ++ [x] ++ l.drop i).map (Value.int .i64))[j]? := by
  intro j hj
  have hz' : l.length + 1 ≤ (((l.map (Value.int .i64)).take i).toArray ++ Z).size := by
    have : ((l.map (Value.int .i64)).take i).length = i := by simp; omega
    omega
  rw [putMany_get _ _ _ _ (by rw [putMany_size]; omega)]
  have e : (l.take i ++ [x] ++ l.drop i).map (Value.int .i64) = (l.map (Value.int .i64)).take i ++ (.int .i64 x :: (l.map (Value.int .i64)).drop i) := by simp
  rw [e]
  rcases Nat.lt_trichotomy j i with h | h | h
  · rw [if_neg (by omega), putMany_get _ _ _ _ (by omega), if_neg (by simp; omega), List.getElem?_append_left (by simp; omega), Array.getElem?_append_left (by simp; omega)]
    simp
  · subst h
    rw [if_neg (by omega), putMany_get _ _ _ _ (by omega), if_pos ⟨Nat.le_refl _, by simp⟩, Nat.sub_self, List.getElem?_append_right (by simp; omega)]
    have : j - ((l.map (Value.int .i64)).take j).length = 0 := by simp; omega
    rw [this]; rfl
  · rw [if_pos ⟨by omega, by simp; omega⟩, List.getElem?_append_right (by simp; omega)]
    have : j - ((l.map (Value.int .i64)).take i).length = j - (i + 1) + 1 := by simp; omega
    rw [this, List.getElem?_cons_succ]
theorem insertsAt_mid (l : List Int) (i : Nat) (hi : i < l.length) : InsertsAt i l := by
  intro W p v b x hr hl _ hx hpb
  obtain ⟨g, cap, cur, rfl, h2, h3, h4, h5, h6, h7, h8⟩ := hr.some_ (by omega)
  unfold maxLen at h5
  have hbg : b ≠ g := fun e => hpb (e ▸ h2)
  have hgl := (Array.getElem?_eq_some_iff.1 h3).1
  have hcell : ∀ (j : Nat) (v : Value), (l.map (Value.int .i64))[j]? = some v → W.cell? ⟨g, 0 + j, none⟩ = some v := fun j v hv => by
    rw [Nat.zero_add]
    refine cellOf h3 ?_
    have hjl := (List.getElem?_eq_some_iff.1 hv).1
    rw [h8 j (by simpa using hjl)]; exact hv
  have hvx : ∀ (j : Nat) (v : Value), [Value.int .i64 x][j]? = some v → W.cell? ⟨b, 0 + j, none⟩ = some v := fun j v hv => by
    match j, hv with
    | 0, hv => cases hv; exact cellOf hx rfl
  by_cases hroom : l.length + 1 ≤ cap
  · have hc := Any2.slices_Insert_int_shift laysIns g 0 l.length cap i b 0 1 1 (l.map (Value.int .i64)) [.int .i64 x] W hi (by omega) hroom (by omega) hbg (by simp) rfl hcell
      (fun j hj => by rw [Nat.zero_add, cellOf h3 (Array.getElem?_eq_getElem (by omega))]; rfl) (fun j _ => freeOf h3 _) hvx (ints_one l) (by simp [Value.oneCell'])
      3 3 1 cur.size (by simp [World.shape?, hx]) (by simp [World.shape?, h3]) (by omega) (freeOf hx _) (freeOf hx _)
    refine Calls.mono (P := Tryz.prog) (f := 82) hc ?_
    rintro e w' ⟨rfl, rfl⟩
    have hh : W.drew.heap[g]? = some (.cells cur 3 (0, 0)) := h3
    refine ⟨_, some g, rfl, ?_, grown_trans (grown_drewN W 1 _) (grown_trans (grown_setCells _ _ _ _) (grown_setCells _ _ _ _)), fun k hk => by cases hk; exact h2⟩
    rw [Nat.zero_add, Nat.zero_add]
    exact RowP.of_some (.inl h2) (heap_setCells_same _ _ _ _ (heap_setCells_same _ _ _ _ hh)) hroom (by unfold maxLen; omega) (by rw [putMany_size, putMany_size]; exact h6) (by simp; omega)
      (put_two l cur i x hi (by omega) fun j hj => h8 j (by omega))
  · have hc := Any2.slices_Insert_int_grow laysIns g 0 l.length cap i b 0 1 1 (l.map (Value.int .i64)) [.int .i64 x] W hi (by omega) h4 (by omega) (by omega) (by simp) rfl hcell hvx (ints_one l) (by simp [Value.oneCell'])
    refine Calls.mono (P := Tryz.prog) (f := 82) hc ?_
    rintro e w' ⟨rfl, rfl⟩
    have hG := grownCap_ge W (l.length + 1) cap (laysIns_ren.t 3)
    have hGm := grownCap_le_maxLen W (l.length + 1) cap (laysIns_ren.t 3) (by unfold maxLen; omega)
    generalize grownCap W (l.length + 1) cap (laysIns_ren.t 3) = G at hG hGm ⊢
    refine ⟨_, none, rfl, ?_, ?_, fun k hk => by cases hk⟩
    · have hsz : ∀ k, (Builtin.zeroCells (Value.int .i64 0).cells k).size = k := fun k => by simp [Builtin.zeroCells, Value.cells]
      have e : ((l.map (Value.int .i64)).take i).toArray ++ Builtin.zeroCells (Value.int .i64 0).cells (l.length + 1 - i) ++ Builtin.zeroCells (Value.int .i64 0).cells (G - (l.length + 1)) = ((l.map (Value.int .i64)).take i).toArray ++ (Builtin.zeroCells (Value.int .i64 0).cells (l.length + 1 - i) ++ Builtin.zeroCells (Value.int .i64 0).cells (G - (l.length + 1))) := by simp
      rw [e]
      have hh := heap_alloc_new W (.cells (((l.map (Value.int .i64)).take i).toArray ++ (Builtin.zeroCells (Value.int .i64 0).cells (l.length + 1 - i) ++ Builtin.zeroCells (Value.int .i64 0).cells (G - (l.length + 1)))) 3)
      have hs : (((l.map (Value.int .i64)).take i).toArray ++ (Builtin.zeroCells (Value.int .i64 0).cells (l.length + 1 - i) ++ Builtin.zeroCells (Value.int .i64 0).cells (G - (l.length + 1)))).size = G := by
        simp only [Array.size_append, hsz, List.size_toArray, List.length_take, List.length_map]; omega
      refine RowP.of_some (.inr (Nat.le_refl _)) (heap_setCells_same _ _ _ _ (show _ = _ from heap_setCells_same _ _ _ _ (show _ = _ from hh))) hG hGm (by rw [putMany_size, putMany_size]; exact hs) (by simp; omega) ?_
      exact put_three l i x _ hi (by rw [hs]; simp; omega)
    · have hA := fun (k : Nat) (hk : k < W.heap.size) => Below.heap_alloc W (.cells (((l.map (Value.int .i64)).take i).toArray ++ Builtin.zeroCells (Value.int .i64 0).cells (l.length + 1 - i) ++ Builtin.zeroCells (Value.int .i64 0).cells (G - (l.length + 1))) (laysIns_ren.t 3)) k hk
      have hne : ∀ k, k < W.heap.size → k ≠ W.heap.size := fun k hk => by omega
      refine ⟨?_, ?_, ?_, ?_, fun k hk _ => ?_⟩
      · exact (setCells_parts _ _ _ _).1.trans (show _ = _ from (setCells_parts _ _ _ _).1)
      · exact (setCells_parts _ _ _ _).2.1.trans (show _ = _ from (setCells_parts _ _ _ _).2.1)
      · exact (setCells_parts _ _ _ _).2.2.1.trans (show _ = _ from (setCells_parts _ _ _ _).2.2.1)
      · rw [(setCells_parts _ _ _ _).2.2.2]
        show _ ≤ ((World.setCells _ _ _ _)).heap.size
        rw [(setCells_parts _ _ _ _).2.2.2]
        show _ ≤ (World.alloc _ _).heap.size
        simp
      · exact (heap_setCells_far (hne k hk) _ _ _).trans (show _ = _ from (heap_setCells_far (hne k hk) _ _ _).trans (hA k hk))
theorem insertsAt_any (l : List Int) (i : Nat) : InsertsAt i l := by
  intro W p v b x hr hl hi hx hpb
  rcases Nat.lt_or_ge i l.length with h | h
  · exact insertsAt_mid l i h W p v b x hr hl hi hx hpb
  · obtain rfl : i = l.length := by omega
    exact insertsAt_end l W p v b x hr hl hi hx hpb
end Go.Proofs.YtalaajbajgdglaaGreatDoor

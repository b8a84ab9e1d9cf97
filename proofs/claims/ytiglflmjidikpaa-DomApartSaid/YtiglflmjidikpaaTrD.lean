/- Plain trees and trees in plain words: what a plain tree weighs; a tree's node as a plain tree; a plain tree put into a tree, node by node. No program in sight. -/
import Derived.Test.YtiglflmjidikpaaTrC
import Derived.Test.YtiglflmjidikpaaPNa
namespace Go.Proofs.Ytiglflmjidikpaa
open Go Go.RowKit Go.BigFrame
set_option linter.unusedVariables false
set_option linter.unusedSimpArgs false

/-- may a node itself not be? -/
def PN.bad (n : PN) : Bool := if n.tag = 0 then !(n.attrs.isEmpty && n.kids.isEmpty) else !(decide (1 ≤ n.tag ∧ n.tag ≤ 16) && n.text.size == 0)
mutual
def PN.high : PN → Nat
  | .mk _ _ _ ks => PN.highs ks
def PN.highs : List PN → Nat
  | [] => 0
  | k :: r => max (PN.high k + 1) (PN.highs r)
end
mutual
def PN.anew : PN → PN
  | .mk t a s ks => .mk t a (anewB s) (PN.anews ks)
def PN.anews : List PN → List PN
  | [] => []
  | k :: r => PN.anew k :: PN.anews r
end
mutual
def PN.ok : PN → Bool
  | .mk t a s ks => !(PN.mk t a s ks).bad && decide ((anewB s).size ≤ 8192) && PN.oks ks
def PN.oks : List PN → Bool
  | [] => true
  | k :: r => PN.ok k && PN.oks r
end
theorem PN.high_eq (n : PN) : n.high = PN.highs n.kids := by cases n; rfl
theorem PN.size_eq (n : PN) : n.size = PN.sizes n.kids + 1 := by cases n; rfl
theorem PN.anew_eq (n : PN) : n.anew = .mk n.tag n.attrs (anewB n.text) (PN.anews n.kids) := by cases n; rfl
theorem PN.anews_eq (l : List PN) : PN.anews l = l.map PN.anew := by
  induction l with
  | nil => rfl
  | cons k r ih => simp only [PN.anews, List.map_cons, ih]
theorem PN.ok_eq (n : PN) : n.ok = (!n.bad && decide ((anewB n.text).size ≤ 8192) && PN.oks n.kids) := by cases n; rfl
theorem PN.oks_mem {l : List PN} (h : PN.oks l = true) {k : PN} (hk : k ∈ l) : k.ok = true := by
  induction l with
  | nil => cases hk
  | cons x r ih =>
    simp only [PN.oks, Bool.and_eq_true] at h
    rcases List.mem_cons.1 hk with rfl | hk
    · exact h.1
    · exact ih h.2 hk
theorem PN.ok_bad {n : PN} (h : n.ok = true) : n.bad = false := by
  rw [PN.ok_eq] at h; simp at h; exact h.1.1
theorem PN.ok_kids {n : PN} (h : n.ok = true) : PN.oks n.kids = true := by
  rw [PN.ok_eq] at h; simp at h; exact h.2
theorem PN.bad_tag {n : PN} (h : n.bad = false) : 0 ≤ n.tag ∧ n.tag ≤ 16 ∧ (n.tag = 0 → n.kids = [] ∧ n.attrs = []) ∧ (n.tag ≠ 0 → n.text.size = 0) := by
  unfold PN.bad at h
  by_cases h0 : n.tag = 0
  · rw [if_pos h0] at h
    simp at h
    exact ⟨by omega, by omega, fun _ => ⟨h.2, h.1⟩, fun e => absurd h0 e⟩
  · rw [if_neg h0] at h
    simp at h
    exact ⟨by omega, by omega, fun e => absurd e h0, fun _ => by rw [h.2]; rfl⟩

/-- a node as a plain tree, with fuel -/
def noPN : PN := .mk 0 [] ByteArray.empty []
def Tr.pln (T : Tr) : Nat → Int → PN
  | 0, _ => noPN
  | f + 1, id => match T.get? id with
    | none => noPN
    | some nd => .mk nd.tag nd.attrs nd.text (nd.kids.map (T.pln f))
def Tr.plain (T : Tr) (id : Int) : PN := T.pln 50 id
theorem pln_step (T : Tr) (f : Nat) {i : Nat} {nd : Nd} (h : T.nodes[i]? = some (some nd)) : T.pln (f + 1) i = .mk nd.tag nd.attrs nd.text (nd.kids.map (T.pln f)) := by
  show (match T.get? i with | none => noPN | some nd => _) = _
  rw [Tr.get_of h]
theorem WF.pln_more {T : Tr} {d : Nat → Nat} (hw : WF T d) : ∀ (f g i : Nat) (nd : Nd), T.nodes[i]? = some (some nd) → 41 ≤ d i + f → 41 ≤ d i + g → T.pln f i = T.pln g i := by
  intro f
  induction f with
  | zero => intro g i nd h h1; have := hw.deep i nd h; have := hw.small.deep1; omega
  | succ f ih =>
    intro g i nd h h1 h2
    cases g with
    | zero => have := hw.deep i nd h; have := hw.small.deep1; omega
    | succ g =>
      rw [pln_step T f h, pln_step T g h]
      congr 1
      refine List.map_congr_left fun k hk => ?_
      obtain ⟨n, hn⟩ := List.getElem?_of_mem hk
      obtain ⟨j, kd, rfl, hj, hjp, hjd⟩ := hw.kid h hn
      exact ih g j kd hj (by omega) (by omega)
theorem WF.plain_eq {T : Tr} {d : Nat → Nat} (hw : WF T d) {i : Nat} {nd : Nd} (h : T.nodes[i]? = some (some nd)) : T.plain i = .mk nd.tag nd.attrs nd.text (nd.kids.map T.plain) := by
  show T.pln 50 i = _
  rw [pln_step T 49 h]
  congr 1
  refine List.map_congr_left fun k hk => ?_
  obtain ⟨n, hn⟩ := List.getElem?_of_mem hk
  obtain ⟨j, kd, rfl, hj, hjp, hjd⟩ := hw.kid h hn
  have := hw.deep j kd hj
  have := hw.small.deep1
  exact hw.pln_more 49 50 j kd hj (by omega) (by omega)
theorem WF.height_eq {T : Tr} {d : Nat → Nat} (hw : WF T d) {i : Nat} {nd : Nd} (h : T.nodes[i]? = some (some nd)) : T.height i = nd.kids.foldl (fun h k => max h (T.height k + 1)) 0 := by
  show T.hgt 50 i = _
  rw [hgt_step T 49 h]
  refine fold_congr _ _ _ _ fun k hk => ?_
  obtain ⟨n, hn⟩ := List.getElem?_of_mem hk
  obtain ⟨j, kd, rfl, hj, hjp, hjd⟩ := hw.kid h hn
  have := hw.deep j kd hj
  have := hw.small.deep1
  show _ = T.hgt 50 j + 1
  rw [hw.hgt_more 49 50 j kd hj (by omega) (by omega)]
/-- two trees that tell the same of all that is within a node -/
theorem pln_same {T T' : Tr} {d : Nat → Nat} (hw : WF T d) {o : Nat} (hs : ∀ (j : Nat) (jd : Nd), T.nodes[j]? = some (some jd) → T.within j o = true → ∃ jd', T'.nodes[j]? = some (some jd') ∧ jd'.tag = jd.tag ∧ jd'.attrs = jd.attrs ∧ jd'.text = jd.text ∧ jd'.kids = jd.kids) {od : Nd} (ho : T.nodes[o]? = some (some od)) :
    ∀ (f i : Nat) (nd : Nd), T.nodes[i]? = some (some nd) → T.within i o = true → T'.pln f i = T.pln f i ∧ T'.hgt f i = T.hgt f i := by
  intro f
  induction f with
  | zero => intro i nd h _; exact ⟨rfl, rfl⟩
  | succ f ih =>
    intro i nd h hin
    obtain ⟨nd', h', e1, e2, e3, e4⟩ := hs i nd h hin
    have hk : ∀ k ∈ nd.kids, T'.pln f k = T.pln f k ∧ T'.hgt f k = T.hgt f k := fun k hk => by
      obtain ⟨j, kd, rfl, hj, hjp⟩ := (hw.kids i nd h).2 k hk
      refine ih j kd hj ?_
      rw [hw.within_step hj, hjp]
      split
      · rfl
      · exact hin
    constructor
    · rw [pln_step T f h, pln_step T' f h', e1, e2, e3, e4]
      congr 1
      exact List.map_congr_left fun k hk' => (hk k hk').1
    · rw [hgt_step T f h, hgt_step T' f h', e4]
      exact fold_congr _ _ _ _ fun k hk' => by rw [(hk k hk').2]
theorem plain_same {T T' : Tr} {d : Nat → Nat} (hw : WF T d) {o : Nat} {od : Nd} (ho : T.nodes[o]? = some (some od))
    (hs : ∀ (j : Nat) (jd : Nd), T.nodes[j]? = some (some jd) → T.within j o = true → ∃ jd', T'.nodes[j]? = some (some jd') ∧ jd'.tag = jd.tag ∧ jd'.attrs = jd.attrs ∧ jd'.text = jd.text ∧ jd'.kids = jd.kids) :
    T'.plain o = T.plain o ∧ T'.height o = T.height o := pln_same hw hs ho 50 o od ho (hw.within_self ho)

/-- a loose node gets one kid more -/
def Tr.attach (T : Tr) (p k : Nat) (pd kd : Nd) : Tr := T.set2 p k { pd with kids := pd.kids ++ [(k : Int)] } { kd with parent := p }
theorem Tr.attach_link (T : Tr) (p k : Nat) (pd kd : Nd) : T.attach p k pd kd = T.link p pd.kids.length k pd kd := by
  rw [Tr.link_eq]; simp [Tr.attach]
theorem WF.attach {T : Tr} {d : Nat → Nat} (hw : WF T d) {p k : Nat} {pd kd : Nd} (hp : T.nodes[p]? = some (some pd)) (hk : T.nodes[k]? = some (some kd))
    (htag : pd.tag ≠ 0) (hk0 : k ≠ 0) (hpar : kd.parent = -1) (hpp : pd.parent = -1) (hpk : p ≠ k) (hh : T.height k + 1 ≤ T.deep) :
    ∃ d', WF (T.attach p k pd kd) d' ∧ (T.attach p k pd kd).height p = max (T.height p) (T.height k + 1) ∧ (T.attach p k pd kd).plain p = .mk pd.tag pd.attrs pd.text (pd.kids.map T.plain ++ [T.plain k]) := by
  have hin : T.within p k = false := by rw [hw.within_root hp hpp]; simp; omega
  have hdp : d p = 0 := by
    rcases hw.up p pd hp with ⟨h3, h4⟩ | ⟨q, qd, h3, h4, h5, h6⟩
    · exact h4
    · omega
  have hl := hw.link (at' := pd.kids.length) hp hk htag hk0 hpar hin (by omega)
  rw [← Tr.attach_link] at hl
  have hg := fun j => Tr.set2_get (pd' := { pd with kids := pd.kids ++ [(k : Int)] }) (kd' := { kd with parent := p }) hp hk j
  have hp' : (T.attach p k pd kd).nodes[p]? = some (some { pd with kids := pd.kids ++ [(k : Int)] }) := by
    show (T.set2 p k _ _).nodes[p]? = _
    rw [hg, if_neg hpk, if_pos rfl]
  -- nodes other than p tell the same
  have hsame : ∀ (j : Nat) (jd : Nd), T.nodes[j]? = some (some jd) → j ≠ p → ∃ jd', (T.attach p k pd kd).nodes[j]? = some (some jd') ∧ jd'.tag = jd.tag ∧ jd'.attrs = jd.attrs ∧ jd'.text = jd.text ∧ jd'.kids = jd.kids := fun j jd h hne => by
    show ∃ jd', (T.set2 p k _ _).nodes[j]? = some (some jd') ∧ _
    rw [hg]
    by_cases e : j = k
    · subst e
      rw [if_pos rfl]
      obtain rfl := some_inj2 hk h
      exact ⟨_, rfl, rfl, rfl, rfl, rfl⟩
    · rw [if_neg e, if_neg hne]
      exact ⟨jd, h, rfl, rfl, rfl, rfl⟩
  have hof : ∀ (o : Nat) (od : Nd), T.nodes[o]? = some (some od) → o ≠ p → (T.attach p k pd kd).plain o = T.plain o ∧ (T.attach p k pd kd).height o = T.height o := fun o od ho hne =>
    plain_same hw ho fun j jd hj hjo => hsame j jd hj fun e => by
      subst e
      obtain rfl := some_inj2 hp hj
      rw [hw.within_root hp hpp] at hjo
      have := of_decide_eq_true hjo
      omega
  have hkids : ∀ x ∈ pd.kids, (T.attach p k pd kd).plain x = T.plain x ∧ (T.attach p k pd kd).height x = T.height x := fun x hx => by
    obtain ⟨j, jd, rfl, hj, hjp⟩ := (hw.kids p pd hp).2 x hx
    refine hof j jd hj fun e => ?_
    subst e
    obtain rfl := some_inj2 hp hj
    omega
  have hkk := hof k kd hk (Ne.symm hpk)
  refine ⟨_, hl, ?_, ?_⟩
  · rw [hl.height_eq hp', hw.height_eq hp]
    show (pd.kids ++ [(k : Int)]).foldl _ 0 = _
    rw [List.foldl_append, List.foldl_cons, List.foldl_nil, hkk.2]
    rw [fold_congr (fun x => (T.attach p k pd kd).height x + 1) (fun x => T.height x + 1) pd.kids 0 fun x hx => by rw [(hkids x hx).2]]
  · rw [hl.plain_eq hp']
    show PN.mk pd.tag pd.attrs pd.text ((pd.kids ++ [(k : Int)]).map _) = _
    rw [List.map_append, List.map_cons, List.map_nil, hkk.1]
    congr 2
    exact List.map_congr_left fun x hx => (hkids x hx).1

/-- the first free number and the tree behind 'put', kids one by one -/
def Tr.look (T : Tr) (i : Int) : Nd := (T.get? i).getD ⟨0, [], ByteArray.empty, [], -1⟩
def Tr.join (T : Tr) (p k : Int) : Tr := T.attach p.toNat k.toNat (T.look p) (T.look k)
mutual
def PN.into (T : Tr) : PN → Tr
  | .mk t a s ks => PN.intos T.newId (T.put ⟨t, a, anewB s, [], -1⟩) ks
def PN.intos (id : Int) (T : Tr) : List PN → Tr
  | [] => T
  | k :: r => PN.intos id ((PN.into T k).join id T.newId) r
end
theorem PN.into_eq (T : Tr) (n : PN) : PN.into T n = PN.intos T.newId (T.put ⟨n.tag, n.attrs, anewB n.text, [], -1⟩) n.kids := by cases n; rfl
theorem look_of {T : Tr} {i : Nat} {nd : Nd} (h : T.nodes[i]? = some (some nd)) : T.look i = nd := by
  unfold Tr.look; rw [Tr.get_of h]; rfl
/-- what holds of a tree into which a plain one was put -/
structure Put (T T' : Tr) (d' : Nat → Nat) (i : Nat) (n : PN) (sz hi : Nat) : Prop where
  wf : WF T' d'
  node : ∃ nd, T'.nodes[i]? = some (some nd) ∧ nd.parent = -1
  high : T'.height i = hi
  plain : T'.plain i = n
  old : ∀ (j : Nat) (x : Nd), j ≠ i → T.nodes[j]? = some (some x) → T'.nodes[j]? = some (some x)
  count : T'.count = T.count + sz
  cap : T'.cap = T.cap
  deep : T'.deep = T.deep
theorem put_fields (T : Tr) (nd : Nd) : (T.put nd).cap = T.cap ∧ (T.put nd).deep = T.deep ∧ (T.put nd).count = T.count + 1 := ⟨rfl, rfl, rfl⟩
/-- one node is put -/
theorem WF.put_one {T : Tr} {d : Nat → Nat} (hw : WF T d) {n : PN} (hb : n.bad = false) (hroom : T.count + 1 ≤ T.cap) :
    ∃ (d' : Nat → Nat) (i : Nat), T.newId = (i : Int) ∧ i ≠ 0 ∧ (∀ x : Nd, T.nodes[i]? ≠ some (some x)) ∧ (T.put ⟨n.tag, n.attrs, anewB n.text, [], -1⟩).nodes[i]? = some (some ⟨n.tag, n.attrs, anewB n.text, [], -1⟩) ∧
      Put T (T.put ⟨n.tag, n.attrs, anewB n.text, [], -1⟩) d' i (.mk n.tag n.attrs (anewB n.text) []) 1 0 := by
  obtain ⟨b0, b1, b2, b3⟩ := PN.bad_tag hb
  obtain ⟨i, h1, h2, h3, h4, h5, h6, h7, h8⟩ := T.put_at ⟨n.tag, n.attrs, anewB n.text, [], -1⟩
  have hne := hw.newId_ne
  have hp := hw.put ⟨n.tag, n.attrs, anewB n.text, [], -1⟩ rfl rfl b0 b1 hroom hne
  refine ⟨_, i, h1, by omega, h3, h2, ⟨hp, ⟨_, h2, rfl⟩, ?_, ?_, fun j x _ hj => h4 j x hj, rfl, rfl, rfl⟩⟩
  · rw [hp.height_eq h2]; rfl
  · rw [hp.plain_eq h2]; rfl

/-- what one plain tree makes, for every tree -/
def PutsOk (n : PN) : Prop := ∀ (T : Tr) (d : Nat → Nat), WF T d → T.count + n.size ≤ T.cap → (n.high : Int) ≤ T.deep → ∃ (d' : Nat → Nat) (i : Nat), T.newId = (i : Int) ∧ i ≠ 0 ∧ (∀ x : Nd, T.nodes[i]? ≠ some (some x)) ∧ Put T (PN.into T n) d' i n.anew n.size n.high
theorem intos_ok : ∀ (ks : List PN) (hks : ∀ k ∈ ks, PutsOk k) (T : Tr) (d : Nat → Nat) (i : Nat) (nd : Nd), WF T d → T.nodes[i]? = some (some nd) → nd.parent = -1 → (nd.tag ≠ 0 ∨ ks = []) → T.count + PN.sizes ks ≤ T.cap → (PN.highs ks : Int) ≤ T.deep → (∀ x ∈ nd.kids, 0 ≤ x) →
    ∃ (d' : Nat → Nat) (nd' : Nd), (PN.intos i T ks).nodes[i]? = some (some nd') ∧ Put T (PN.intos i T ks) d' i (.mk nd.tag nd.attrs nd.text (nd.kids.map T.plain ++ PN.anews ks)) (PN.sizes ks) (max (T.height i).toNat (PN.highs ks)) := by
  intro ks
  induction ks with
  | nil =>
    intro hks T d i nd hw hi hp ht hc hh hx
    refine ⟨d, nd, hi, ⟨hw, ⟨nd, hi, hp⟩, ?_, ?_, fun j x _ hj => hj, ?_, rfl, rfl⟩⟩
    · have := hgt_nn T 50 hi
      show T.height i = ((max (T.height i).toNat 0 : Nat) : Int)
      have h0 : 0 ≤ T.height i := this
      omega
    · show T.plain i = _
      rw [hw.plain_eq hi]; simp [PN.anews]
    · show T.count = T.count + ((0 : Nat) : Int); simp
  | cons k r ih =>
    intro hks T d i nd hw hi hp ht hc hh hx
    simp only [PN.sizes, PN.highs] at hc hh
    have hkpos := k.size_pos
    obtain ⟨d1, m, hm1, hm0, hm2, hP⟩ := hks k (by simp) T d hw (by omega) (by omega)
    have him : i ≠ m := fun e => hm2 nd (e ▸ hi)
    have hi1 : (PN.into T k).nodes[i]? = some (some nd) := hP.old i nd him hi
    obtain ⟨kd, hk1, hk2⟩ := hP.node
    have ht' : nd.tag ≠ 0 := by rcases ht with h | h; exact h; cases h
    obtain ⟨d2, hw2, hh2, hp2⟩ := hP.wf.attach hi1 hk1 ht' hm0 hk2 hp him (by rw [hP.high, hP.deep]; omega)
    have hjoin : (PN.into T k).join i T.newId = (PN.into T k).attach i m nd kd := by
      unfold Tr.join
      rw [hm1, Int.toNat_natCast, Int.toNat_natCast, look_of hi1, look_of hk1]
    have hg := fun j => Tr.set2_get (pd' := { nd with kids := nd.kids ++ [(m : Int)] }) (kd' := { kd with parent := i }) hi1 hk1 j
    have hi2 : ((PN.into T k).attach i m nd kd).nodes[i]? = some (some { nd with kids := nd.kids ++ [(m : Int)] }) := by
      show (Tr.set2 _ i m _ _).nodes[i]? = _
      rw [hg, if_neg him, if_pos rfl]
    -- heights and plains of the kids that were there
    have hold := plain_same (T' := PN.into T k) hw hi fun j jd hj _ => by
      refine ⟨jd, hP.old j jd (fun e => hm2 jd (e ▸ hj)) hj, rfl, rfl, rfl, rfl⟩
    have hcount : ((PN.into T k).attach i m nd kd).count = T.count + k.size := hP.count
    have hcap : ((PN.into T k).attach i m nd kd).cap = T.cap := hP.cap
    have hdeep : ((PN.into T k).attach i m nd kd).deep = T.deep := hP.deep
    obtain ⟨d3, nd3, hn3, hP3⟩ := ih (fun x hx' => hks x (by simp [hx'])) _ d2 i _ hw2 hi2 hp (.inl ht') (by rw [hcount, hcap]; omega) (by rw [hdeep]; omega) (fun x hx' => by
      rcases List.mem_append.1 hx' with h | h
      · exact hx x h
      · simp at h; omega)
    have e0 : PN.intos i T (k :: r) = PN.intos i ((PN.into T k).attach i m nd kd) r := by
      simp only [PN.intos]; rw [hjoin]
    rw [e0]
    refine ⟨d3, nd3, hn3, ⟨hP3.wf, hP3.node, ?_, ?_, fun j x hj hjx => ?_, ?_, hP3.cap.trans hcap, hP3.deep.trans hdeep⟩⟩
    · rw [hP3.high, hh2, hP.high, hold.2]
      simp only [PN.highs]
      have h0 : 0 ≤ T.height i := hgt_nn T 50 hi
      omega
    · rw [hP3.plain]
      have e1 := hw2.plain_eq hi2
      rw [hp2] at e1
      have e2 : (nd.kids ++ [(m : Int)]).map ((PN.into T k).attach i m nd kd).plain = nd.kids.map T.plain ++ [k.anew] := by
        have e3 : nd.kids.map (PN.into T k).plain = nd.kids.map T.plain := by
          have q1 := hP.wf.plain_eq hi1
          rw [hold.1, hw.plain_eq hi] at q1
          exact (PN.mk.inj q1).2.2.2.symm
        have e4 := (PN.mk.inj e1).2.2.2
        show List.map ((PN.into T k).attach i m nd kd).plain (nd.kids ++ [(m : Int)]) = _
        rw [← e3, ← hP.plain]
        exact e4.symm
      show PN.mk nd.tag nd.attrs nd.text ((nd.kids ++ [(m : Int)]).map _ ++ PN.anews r) = _
      rw [e2]
      simp [PN.anews]
    · have hjm : j ≠ m := fun e => hm2 x (e ▸ hjx)
      refine hP3.old j x hj ?_
      show (Tr.set2 _ i m _ _).nodes[j]? = _
      rw [hg, if_neg hjm, if_neg hj]
      exact hP.old j x hjm hjx
    · rw [hP3.count, hcount]
      simp only [PN.sizes]
      push_cast; omega
theorem into_ok : ∀ n : PN, n.ok = true → PutsOk n := by
  refine PN.induct _ fun n ih hok T d hw hc hh => ?_
  have hb := PN.ok_bad hok
  have hkids := PN.ok_kids hok
  obtain ⟨b0, b1, b2, b3⟩ := PN.bad_tag hb
  rw [PN.size_eq] at hc
  obtain ⟨d1, i, h1, h0, h2, h3, hP⟩ := hw.put_one hb (by omega)
  obtain ⟨d2, nd2, hn2, hP2⟩ := intos_ok n.kids (fun k hk => ih k hk (PN.oks_mem hkids hk)) _ d1 i _ hP.wf h3 rfl (by
    by_cases e : n.tag = 0
    · exact .inr (b2 e).1
    · exact .inl e) (by rw [hP.count, hP.cap]; omega) (by rw [hP.deep]; rw [PN.high_eq] at hh; exact hh) (fun x hx => by cases hx)
  rw [PN.into_eq, h1]
  refine ⟨d2, i, rfl, h0, h2, ⟨hP2.wf, hP2.node, ?_, ?_, fun j x hj hjx => hP2.old j x hj (hP.old j x hj hjx), ?_, hP2.cap.trans hP.cap, hP2.deep.trans hP.deep⟩⟩
  · rw [hP2.high, hP.high, PN.high_eq]; simp
  · rw [hP2.plain, PN.anew_eq]; simp
  · rw [hP2.count, hP.count, PN.size_eq]; push_cast; omega
end Go.Proofs.Ytiglflmjidikpaa

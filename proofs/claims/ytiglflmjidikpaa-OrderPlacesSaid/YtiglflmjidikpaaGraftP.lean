/- What a graft comes to, told of the tree: the new node is there, with as many nodes more; taken off and dropped, all is as it was. No program in sight. -/
import Derived.Test.YtiglflmjidikpaaApart
namespace Go.Proofs.Ytiglflmjidikpaa
open Go Go.RowKit Go.BigFrame
set_option linter.unusedVariables false
set_option linter.unusedSimpArgs false

/-- so many nodes are within a node as its plain tree has -/
theorem WF.rid_count {T : Tr} {d : Nat → Nat} (hw : WF T d) : ∀ (f i : Nat) (nd : Nd), T.nodes[i]? = some (some nd) → 41 ≤ d i + f → ∀ q : Nat → Bool, (∀ (j : Nat) (jd : Nd), T.nodes[j]? = some (some jd) → T.within j i = true → q j = false) →
    (T.rid fun j => T.within j i || q j).count = (T.rid q).count - ((T.plain i).size : Int) := by
  intro f
  induction f with
  | zero =>
    intro i nd hi hd
    have h1 := hw.deep i nd hi
    have h2 := hw.small.deep1
    omega
  | succ f ih =>
    intro i nd hi hd q hq
    have hkids := hw.kids i nd hi
    have hdep : ∀ (m : Nat) (kd : Nd), T.nodes[m]? = some (some kd) → kd.parent = (i : Int) → d m = d i + 1 := fun m kd hm hp => by
      rcases hw.up m kd hm with ⟨h3, h4⟩ | ⟨p, pd, h3, h4, h5, h6⟩
      · omega
      · obtain rfl : p = i := by omega
        exact h5
    have key : ∀ ks : List Int, ks.Nodup → (∀ k ∈ ks, k ∈ nd.kids) → (T.rid fun j => T.inAny ks j || q j).count = (T.rid q).count - ((PN.sizes (ks.map T.plain) : Nat) : Int) := by
      intro ks
      induction ks with
      | nil => intro _ _; simp [Tr.inAny, PN.sizes]
      | cons k r ihr =>
        intro hn hin
        obtain ⟨hkr, hnr⟩ := List.nodup_cons.1 hn
        obtain ⟨m, kd, ek, hm, hmp⟩ := hkids.2 k (hin k (by simp))
        subst ek
        have hdm := hdep m kd hm hmp
        have hmk : (m : Int) ∈ nd.kids := hin _ (by simp)
        have h1 := ih m kd hm (by omega) (fun j => T.inAny r j || q j) fun j jd hj hjm => by
          have h3 : q j = false := hq j jd hj (hw.kid_within hi hmk j jd hj hjm)
          show (T.inAny r j || q j) = false
          rw [h3, Bool.or_false]
          cases hr : T.inAny r j with
          | false => rfl
          | true =>
            obtain ⟨x, hx, hxj⟩ := List.any_eq_true.1 hr
            have hxk := hin x (by simp [hx])
            obtain ⟨y, yd, ey, _, _⟩ := hkids.2 x hxk
            subst ey
            exact (hw.kids_apart hi hmk hxk (fun e => hkr (by rw [e]; exact hx)) j jd hj hjm hxj).elim
        have h2 := ihr hnr fun x hx => hin x (by simp [hx])
        have e : (T.rid fun j => T.inAny ((m : Int) :: r) j || q j) = T.rid fun j => T.within j m || (T.inAny r j || q j) := Tr.rid_congr fun j jd _ => by
          simp [Tr.inAny, Bool.or_assoc]
        rw [e, h1, h2, List.map_cons, PN.sizes]
        push_cast
        omega
    have hself : T.inAny nd.kids i = false := by
      cases hr : T.inAny nd.kids i with
      | false => rfl
      | true =>
        obtain ⟨x, hx, hxi⟩ := List.any_eq_true.1 hr
        obtain ⟨y, yd, ey, hy, hyp⟩ := hkids.2 x hx
        subst ey
        have h1 := hdep y yd hy hyp
        have h2 := (hw.within_depth i nd hi hxi).1
        omega
    have hqi : (T.inAny nd.kids i || q i) = false := by rw [hself, hq i nd hi (hw.within_self hi)]; rfl
    have e : (T.rid fun j => T.within j i || q j) = T.rid fun j => decide (j = i) || (T.inAny nd.kids j || q j) := Tr.rid_congr fun j jd hj => by
      rw [← hw.inAny_kids hi hj, Bool.or_assoc]
    have h1 := Tr.rid_set (T := T) (q := fun j => T.inAny nd.kids j || q j) hi hqi
    have h2 := congrArg Tr.count h1
    have h3 := key nd.kids hkids.1 fun x hx => hx
    rw [e, ← h2, hw.plain_eq hi, PN.size_eq]
    show (T.rid fun j => T.inAny nd.kids j || q j).count - 1 = _
    rw [h3]
    simp only [PN.kids]
    push_cast
    omega
theorem WF.rid_size {T : Tr} {d : Nat → Nat} (hw : WF T d) {i : Nat} {nd : Nd} (hi : T.nodes[i]? = some (some nd)) : (T.rid fun j => T.within j i).count = T.count - ((T.plain i).size : Int) := by
  have h := hw.rid_count 41 i nd hi (by omega) (fun _ => false) fun _ _ _ _ => rfl
  rw [Tr.rid_none hw.count] at h
  rw [← h]
  exact congrArg Tr.count (Tr.rid_congr fun j jd _ => by simp)
theorem PN.anew_size : ∀ n : PN, n.anew.size = n.size := by
  refine PN.induct _ fun n ih => ?_
  rw [PN.anew_eq, PN.size_eq, PN.size_eq]
  show PN.sizes (PN.anews n.kids) + 1 = _
  rw [PN.anews_eq]
  have : ∀ l : List PN, (∀ k ∈ l, k.anew.size = k.size) → PN.sizes (l.map PN.anew) = PN.sizes l := by
    intro l
    induction l with
    | nil => intro _; rfl
    | cons k r ihr => intro h; simp only [List.map_cons, PN.sizes]; rw [h k (by simp), ihr fun x hx => h x (by simp [hx])]
  rw [this _ ih]
theorem PN.anew_fair : ∀ n : PN, n.fair = true → n.anew.fair = true := by
  refine PN.induct _ fun n ih h => ?_
  rw [PN.fair_eq] at h
  simp only [Bool.and_eq_true, decide_eq_true_eq] at h
  rw [PN.anew_eq, PN.fair_eq]
  simp only [Bool.and_eq_true, decide_eq_true_eq]
  refine ⟨h.1, PN.fairs_of fun k hk => ?_⟩
  have hk' : k ∈ PN.anews n.kids := hk
  rw [PN.anews_eq] at hk'
  obtain ⟨x, hx, rfl⟩ := List.mem_map.1 hk'
  exact ih x hx (PN.fairs_mem h.2 hx)
/-- a graft, and what comes of it -/
structure GraftLaw (T : Tr) (p a : Nat) (n : PN) (T1 T2 T3 : Tr) (d1 d2 d3 : Nat → Nat) (i : Nat) (nd pd kd : Nd) : Prop where
  ne : i ≠ 0
  wf1 : WF T1 d1
  ok1 : AttrsOk T1
  node1 : T1.nodes[i]? = some (some nd)
  up : nd.parent = (p : Int)
  par1 : T1.nodes[p]? = some (some pd)
  pos : posOf pd.kids i = (a : Int)
  plain1 : T1.plain i = n.anew
  count1 : T1.count = T.count + n.size
  off : T1.unlink p i pd nd = T2
  wf2 : WF T2 d2
  ok2 : AttrsOk T2
  node2 : T2.nodes[i]? = some (some kd)
  root2 : kd.parent = -1
  plain2 : T2.plain i = n.anew
  rid : (T2.rid fun j => T2.within j i) = T3
  wf3 : WF T3 d3
  ok3 : AttrsOk T3
  none3 : T3.get? i = none
  count3 : T3.count = T.count
  plain3 : T3.plain ((0 : Nat) : Int) = T.plain ((0 : Nat) : Int)
theorem WF.graft {T : Tr} {d : Nat → Nat} (hw : WF T d) (hA : AttrsOk T) {p a : Nat} {pd : Nd} (hp : T.nodes[p]? = some (some pd)) (ht : pd.tag ≠ 0) (ha : a ≤ pd.kids.length) {n : PN} (hsh : n.short = true) (hok : n.ok = true) (hdp : (d p : Int) + 1 + n.high ≤ T.deep) (hf : (n.size : Int) ≤ T.cap - T.count) :
    ∃ (T1 T2 T3 : Tr) (d1 d2 d3 : Nat → Nat) (i : Nat) (nd pd1 kd : Nd), T.newId = (i : Int) ∧ T.grafted p a pd n = T1 ∧ GraftLaw T p a n T1 T2 T3 d1 d2 d3 i nd pd1 kd := by
  obtain ⟨d2, i, hi1, hi0, hi2, hP⟩ := into_ok n hok T d hw (by omega) (by omega)
  obtain ⟨kd, hk1, hk2⟩ := hP.node
  have hpi : p ≠ i := fun e => hi2 pd (e ▸ hp)
  obtain ⟨hap1, hap2⟩ := hP.apart hw hi2 p pd hp
  have hA2 := into_attrs n hok hsh T hA
  obtain ⟨T1, d1, hT1, hw1, hA1, h1, h2, h3, h4, h5⟩ := hP.wf.on hA2 hk1 (hP.old p pd hpi hp) hk2 ht hi0 ha hap1 (by rw [hap2, hP.deep, hP.high]; omega)
  have hgr : T.grafted p a pd n = T1 := by
    unfold Tr.grafted; rw [hi1, Int.toNat_natCast, look_of hk1]; exact hT1
  have hc1 : T1.count = (PN.into T n).count := by rw [← hT1, Tr.link_eq]; rfl
  refine ⟨T1, PN.into T n, (PN.into T n).rid fun j => (PN.into T n).within j i, d1, d2, d2, i, _, _, kd, hi1, hgr, ⟨hi0, hw1, hA1, h1, rfl, h2, h4, h3.trans hP.plain, hc1.trans hP.count, h5, hP.wf, hA2, hk1, hk2, hP.plain, rfl, hP.wf.rid hk1 hk2 hi0, hA2.rid _, ?_, ?_, ?_⟩⟩
  · rw [Tr.get_nat, Tr.rid_get, hk1]
    simp [hP.wf.within_self hk1]
  · rw [hP.wf.rid_size hk1, hP.plain, PN.anew_size, hP.count]; omega
  · refine plain_root hw fun j jd hj _ => ?_
    have hji : j ≠ i := fun e => hi2 jd (e ▸ hj)
    exact Tr.rid_some.2 ⟨(hP.apart hw hi2 j jd hj).1, hP.old j jd hji hj⟩
section
variable {w0 w : World} {tb : Nat} {T : Tr} {g : World}
/-- what a graft may come to -/
def GraftSit (w0 : World) (tb : Nat) (T : Tr) (g : World) (p at' : Int) (n : PN) (e : Ending) (w' : World) : Prop :=
  (∃ er : Int, (er == 0) = false ∧ e = .returned (.tuple #[.int .i64 0, .int .i64 er]) ∧ Sit w0 w' tb T g) ∨
  ∃ (p' a' : Nat) (T1 T2 T3 : Tr) (d1 d2 d3 : Nat → Nat) (i : Nat) (nd pd kd : Nd), p = (p' : Int) ∧ at' = (a' : Int) ∧ GraftLaw T p' a' n T1 T2 T3 d1 d2 d3 i nd pd kd ∧ e = .returned (.tuple #[.int .i64 i, .int .i64 0]) ∧ Sit w0 w' tb T1 g
theorem sit_graft (h : Sit w0 w tb T g) {d : Nat → Nat} (hw : WF T d) (hA : AttrsOk T) (p at' : Int) {n : PN} {nv : Value} (hr : RdN g n nv) (hsh : n.short = true) (hsz : n.size ≤ 90000) :
    Calls Try.prog 31 #[.pointer (some ⟨tb, 0, none⟩), .int .i64 p, .int .i64 at', nv] w (GraftSit w0 tb T g p at' n) := by
  have hr0 := hr
  obtain ⟨av, kv, rfl, _, _⟩ := hr0.open
  obtain ⟨own, ptr, hT, hO, hx, hfr, hap⟩ := h.out
  have bad : ∀ {er : Int}, (er == 0) = false → Calls Try.prog 31 #[.pointer (some ⟨tb, 0, none⟩), .int .i64 p, .int .i64 at', .agg #[.int .i64 n.tag, av, .string n.text, kv]] w (RTwo (.int .i64 0) (.int .i64 er) w) →
      Calls Try.prog 31 #[.pointer (some ⟨tb, 0, none⟩), .int .i64 p, .int .i64 at', .agg #[.int .i64 n.tag, av, .string n.text, kv]] w (GraftSit w0 tb T g p at' n) := fun he hc => hc.mono fun e w' hh => .inl ⟨_, he, hh.1, h.ext hh.2⟩
  cases hp : T.get? p with
  | none => exact bad (by decide) (Graft_none hT hO hp _ _ _ _)
  | some pd =>
    rcases tag_b (x := pd.tag) with ht | ht
    · exact bad (by decide) (Graft_kind hT hO hp ht _ _ _ _)
    · by_cases harg : at' < 0 ∨ (pd.kids.length : Int) < at'
      · exact bad (by decide) (Graft_arg hT hO hp ht harg _ _ _ _)
      · obtain ⟨p', rfl, hpn⟩ := nat_of hp
        obtain ⟨a', rfl⟩ := Int.eq_ofNat_of_zero_le (show 0 ≤ at' by omega)
        have hal : a' ≤ pd.kids.length := by omega
        by_cases he : (PN.look 0 ⟨0, 0, 0⟩ n).e = 0
        · have hok : n.ok = true := ((look_spec n 0 ⟨0, 0, 0⟩).2.2.1 he).2
          by_cases hdp : T.deep < (d p' : Int) + 1 + n.high
          · exact bad (by decide) (Graft_deep hT hO hw hpn ht hal hr hap hsh hsz hok hdp)
          · by_cases hf : (n.size : Int) ≤ T.cap - T.count
            · obtain ⟨T1, T2, T3, d1, d2, d3, i, nd, pd1, kd, h1, h2, h3⟩ := hw.graft hA hpn (by simpa using ht) hal hsh hok (by omega) hf
              refine (Graft_ok hT hO hw hpn ht hal hr hap hsh hsz hok (by omega) hf).mono fun e w' hh => .inr ⟨p', a', T1, T2, T3, d1, d2, d3, i, nd, pd1, kd, rfl, rfl, h3, ?_, ?_⟩
              · rw [hh.1, h1]
              · exact h2 ▸ Sit.after (T := T) hx hfr hap hh.2
            · exact bad (by decide) (Graft_full hT hO hw hpn ht hal hr hap hsh hsz hok (by omega) hf)
        · exact bad (by simpa using he) (Graft_bad hT hO hw hpn ht hal hr hap hsh hsz he)
theorem sit_drop (h : Sit w0 w tb T g) {d : Nat → Nat} (hw : WF T d) {i : Nat} {nd : Nd} (hi : T.nodes[i]? = some (some nd)) (h0 : i ≠ 0) (hp : nd.parent = -1) {T' : Tr} (hT' : (T.rid fun j => T.within j i) = T') :
    Calls Try.prog 25 #[.pointer (some ⟨tb, 0, none⟩), .int .i64 i] w (SitIs (.int .i64 0) w0 tb T' g) :=
  h.err fun own ptr hT hO _ => hT' ▸ Drop_ok hT hO hw hi h0 hp
end
end Go.Proofs.Ytiglflmjidikpaa

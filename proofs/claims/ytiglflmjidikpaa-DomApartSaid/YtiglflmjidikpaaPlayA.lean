/- Package dom: each call in one contract: the tree behind it is a good one. Conditions: at most 100000 bytes, 60000 attributes, light plain trees. -/
import Derived.Test.YtiglflmjidikpaaHeavy
namespace Go.Proofs.Ytiglflmjidikpaa
open Go Go.RowKit Go.BigFrame
set_option linter.unusedVariables false
set_option linter.unusedSimpArgs false

def AttrsOk (T : Tr) : Prop := ∀ (i : Nat) (nd : Nd), T.nodes[i]? = some (some nd) → nd.attrs.length ≤ 60000
def GoodT (T : Tr) : Prop := (∃ d, WF T d) ∧ AttrsOk T
/-- a call has come back, the tree is a good one -/
def PlayIs (own : Ow) (w : World) (tb : Nat) (e : Ending) (w' : World) : Prop := (∃ v, e = .returned v) ∧ ∃ T', GoodT T' ∧ After own w tb T' w'
theorem After.same {own : Ow} {w w' : World} {ptr : Nat → Nat} {tb : Nat} {T : Tr} (hT : TreeAt w own ptr tb T) (hO : Owned own w) (x : Ext w w') : After own w tb T w' := ⟨own, ptr, hT.keep (x.keep hO), x.step hO⟩
theorem set_get {l : List (Option Nd)} {i : Nat} {x : Option Nd} {j : Nat} {nd : Nd} (h : (l.set i x)[j]? = some (some nd)) : x = some nd ∨ l[j]? = some (some nd) := by
  rw [List.getElem?_set] at h
  split at h
  · split at h
    · injection h with h; exact .inl h
    · cases h
  · exact .inr h
theorem AttrsOk.put {T : Tr} (h : AttrsOk T) (nd : Nd) (hn : nd.attrs.length ≤ 60000) : AttrsOk (T.put nd) := by
  intro j x hj
  obtain ⟨n, _, h2, _, _, h5, _⟩ := T.put_at nd
  by_cases e : j = n
  · subst e
    obtain rfl := some_inj2 h2 hj
    exact hn
  · exact h j x (h5 j x e hj)
theorem AttrsOk.set2 {T : Tr} (h : AttrsOk T) {p k : Nat} {pd kd : Nd} (h1 : pd.attrs.length ≤ 60000) (h2 : kd.attrs.length ≤ 60000) : AttrsOk (T.set2 p k pd kd) := by
  intro j x hj
  rcases set_get hj with e | hj
  · injection e with e; subst e; exact h2
  · rcases set_get hj with e | hj
    · injection e with e; subst e; exact h1
    · exact h j x hj
theorem AttrsOk.look {T : Tr} (h : AttrsOk T) (i : Int) : (T.look i).attrs.length ≤ 60000 := by
  unfold Tr.look
  cases hg : T.get? i with
  | none => simp
  | some nd => exact h _ nd (Tr.get_lt hg).2.2
theorem AttrsOk.join {T : Tr} (h : AttrsOk T) (p k : Int) : AttrsOk (T.join p k) := h.set2 (h.look p) (h.look k)
theorem intos_attrs (id : Int) : ∀ (l : List PN), (∀ k ∈ l, ∀ T, AttrsOk T → AttrsOk (PN.into T k)) → ∀ T, AttrsOk T → AttrsOk (PN.intos id T l) := by
  intro l
  induction l with
  | nil => intro _ T h; exact h
  | cons k r ih => intro hk T h; exact ih (fun x hx => hk x (by simp [hx])) _ ((hk k (by simp) T h).join _ _)
theorem into_attrs : ∀ n : PN, n.short = true → ∀ T, AttrsOk T → AttrsOk (PN.into T n) := by
  refine PN.induct _ fun n ih hs T h => ?_
  rw [PN.short_eq] at hs
  simp at hs
  rw [PN.into_eq]
  exact intos_attrs _ _ (fun k hk => ih k hk (PN.shorts_mem hs.2 hk)) _ (h.put _ hs.1.2)
theorem AttrsOk.rid {T : Tr} (h : AttrsOk T) (q : Nat → Bool) : AttrsOk (T.rid q) := fun i nd hi => h i nd (Tr.rid_some.1 hi).2
theorem AttrsOk.setAt {T : Tr} (h : AttrsOk T) {i : Nat} {nd : Nd} (hn : nd.attrs.length ≤ 60000) : AttrsOk (T.setAt i nd) := fun j x hj => by
  rcases set_get hj with e | hj
  · injection e with e; subst e; exact hn
  · exact h j x hj
section
variable {w : World} {own : Ow} {ptr : Nat → Nat} {tb : Nat} {T : Tr}
theorem play_same (hT : TreeAt w own ptr tb T) (hO : Owned own w) (hG : GoodT T) {v : Value} {e : Ending} {w' : World} (h : RVal v w e w') : PlayIs own w tb e w' := ⟨⟨v, h.1⟩, T, hG, After.same hT hO h.2⟩
theorem play_two (hT : TreeAt w own ptr tb T) (hO : Owned own w) (hG : GoodT T) {v u : Value} {e : Ending} {w' : World} (h : RTwo v u w e w') : PlayIs own w tb e w' := ⟨⟨_, h.1⟩, T, hG, After.same hT hO h.2⟩
theorem Text_play (hT : TreeAt w own ptr tb T) (hO : Owned own w) (hG : GoodT T) (s : ByteArray) (hs : s.size ≤ 100000) : Calls Try.prog 41 #[.pointer (some ⟨tb, 0, none⟩), .string s] w (PlayIs own w tb) := by
  obtain ⟨⟨d, hw⟩, ha⟩ := hG
  by_cases h1 : 8192 < (anewB s).size
  · exact (Text_long tb s hs h1 w).mono fun e w' h => play_two hT hO ⟨⟨d, hw⟩, ha⟩ h
  · by_cases h2 : 1 ≤ T.cap - T.count
    · refine (Text_ok hT hO hw s hs (by omega) h2).mono fun e w' h => ⟨⟨_, h.1⟩, _, ⟨⟨_, hw.put _ rfl rfl (by show (0:Int) ≤ 0; decide) (by show (0:Int) ≤ 16; decide) (by omega) hw.newId_ne⟩, ha.put _ (by simp)⟩, h.2⟩
    · exact (Text_full hT hO hw.small s hs (by omega) h2).mono fun e w' h => play_two hT hO ⟨⟨d, hw⟩, ha⟩ h
theorem Element_play (hT : TreeAt w own ptr tb T) (hO : Owned own w) (hG : GoodT T) (tag : Int) {av : Value} {attrs : List (ByteArray × ByteArray)} (hr : RowRd w 2 av attrs.length (attrCells attrs)) (hl : attrs.length ≤ 60000) :
    Calls Try.prog 44 #[.pointer (some ⟨tb, 0, none⟩), .int .i64 tag, av] w (PlayIs own w tb) := by
  obtain ⟨⟨d, hw⟩, ha⟩ := hG
  by_cases h1 : 1 ≤ tag ∧ tag ≤ 16
  · by_cases h2 : 1 ≤ T.cap - T.count
    · refine (Element_ok hT hO hw tag h1.1 h1.2 h2 hr hl).mono fun e w' h => ⟨⟨_, h.1⟩, _, ⟨⟨_, hw.put _ rfl rfl (by show 0 ≤ tag; omega) h1.2 (by omega) hw.newId_ne⟩, ha.put _ hl⟩, h.2⟩
    · exact (Element_full hT hw.small tag h1.1 h1.2 h2 av).mono fun e w' h => play_two hT hO ⟨⟨d, hw⟩, ha⟩ h
  · exact (Element_arg tb tag h1 av w).mono fun e w' h => play_two hT hO ⟨⟨d, hw⟩, ha⟩ h
theorem nat_of {id : Int} {nd : Nd} (h : T.get? id = some nd) : ∃ i : Nat, id = (i : Int) ∧ T.nodes[i]? = some (some nd) := by
  obtain ⟨h0, _, h2⟩ := Tr.get_lt h
  exact ⟨id.toNat, by omega, h2⟩
theorem tag_b {x : Int} : (x == 0) = true ∨ (x == 0) = false := by cases h : (x == 0); exact .inr rfl; exact .inl rfl
theorem WF.parent_cases {d : Nat → Nat} (hw : WF T d) {i : Nat} {nd : Nd} (h : T.nodes[i]? = some (some nd)) : nd.parent = -1 ∨ ∃ (p : Nat) (pd : Nd), nd.parent = (p : Int) ∧ T.nodes[p]? = some (some pd) ∧ (i : Int) ∈ pd.kids ∧ p ≠ i := by
  rcases hw.up i nd h with h | ⟨p, pd, h1, h2, h3, h4⟩
  · exact .inl h.1
  · exact .inr ⟨p, pd, h1, h2, h4, fun e => by subst e; omega⟩
theorem Insert_play (hT : TreeAt w own ptr tb T) (hO : Owned own w) (hG : GoodT T) (p at' k : Int) : Calls Try.prog 21 #[.pointer (some ⟨tb, 0, none⟩), .int .i64 p, .int .i64 at', .int .i64 k] w (PlayIs own w tb) := by
  obtain ⟨⟨d, hw⟩, ha⟩ := hG
  cases hp : T.get? p with
  | none => exact (Insert_none hT (.inl hp)).mono fun e w' h => play_same hT hO ⟨⟨d, hw⟩, ha⟩ h
  | some pd =>
    cases hk : T.get? k with
    | none => exact (Insert_none hT (.inr hk)).mono fun e w' h => play_same hT hO ⟨⟨d, hw⟩, ha⟩ h
    | some kd =>
      rcases tag_b (x := pd.tag) with ht | ht
      · exact (Insert_kind hT hp hk ht).mono fun e w' h => play_same hT hO ⟨⟨d, hw⟩, ha⟩ h
      · by_cases harg : k = 0 ∨ 0 ≤ kd.parent ∨ at' < 0 ∨ (pd.kids.length : Int) < at'
        · exact (Insert_arg hT hp hk ht harg).mono fun e w' h => play_same hT hO ⟨⟨d, hw⟩, ha⟩ h
        · obtain ⟨p', rfl, hpn⟩ := nat_of hp
          obtain ⟨k', rfl, hkn⟩ := nat_of hk
          obtain ⟨a', rfl⟩ := Int.eq_ofNat_of_zero_le (show 0 ≤ at' by omega)
          have hpar : kd.parent = -1 := by
            rcases hw.parent_cases hkn with h | ⟨q, qd, h1, _⟩
            · exact h
            · omega
          have hal : a' ≤ pd.kids.length := by omega
          have hk0 : k' ≠ 0 := by omega
          have hkl := hw.kids_len hpn
          cases hin : T.within p' k' with
          | true => exact (Insert_loop hT hw hpn hkn ht hk0 hpar hal hin).mono fun e w' h => play_same hT hO ⟨⟨d, hw⟩, ha⟩ h
          | false =>
            by_cases hdp : T.deep < (d p' : Int) + 1 + T.hgt 50 k'
            · exact (Insert_deep hT hO hw hpn hkn ht hk0 hpar hal (by omega) hin hdp).mono fun e w' h => play_same hT hO ⟨⟨d, hw⟩, ha⟩ h
            · refine (Insert_ok hT hO hw hpn hkn ht hk0 hpar hal (by omega) hin (by omega) (insertsAt_any _ _)).mono fun e w' h => ⟨⟨_, h.1⟩, _, ⟨⟨_, hw.link hpn hkn (by simpa using ht) hk0 hpar hin (by show (d p' : Int) + 1 + T.hgt 50 k' ≤ T.deep; omega)⟩, ?_⟩, h.2⟩
              rw [Tr.link_eq]
              exact ha.set2 (show pd.attrs.length ≤ 60000 from ha _ _ hpn) (show kd.attrs.length ≤ 60000 from ha _ _ hkn)
theorem Remove_play (hT : TreeAt w own ptr tb T) (hO : Owned own w) (hG : GoodT T) (id : Int) : Calls Try.prog 22 #[.pointer (some ⟨tb, 0, none⟩), .int .i64 id] w (PlayIs own w tb) := by
  obtain ⟨⟨d, hw⟩, ha⟩ := hG
  cases hi : T.get? id with
  | none => exact (Remove_none hT hi).mono fun e w' h => play_same hT hO ⟨⟨d, hw⟩, ha⟩ h
  | some nd =>
    obtain ⟨i, rfl, hn⟩ := nat_of hi
    rcases hw.parent_cases hn with h | ⟨p, pd, h1, h2, h3, h4⟩
    · exact (Remove_root hT hi (by omega)).mono fun e w' h => play_same hT hO ⟨⟨d, hw⟩, ha⟩ h
    · have := hw.kids_len h2
      exact (Remove_ok hT hO h2 hn h1 h4 (by omega) h3).mono fun e w' h => ⟨⟨_, h.1⟩, _, ⟨⟨_, hw.unlink h2 hn h1⟩, ha.set2 (show pd.attrs.length ≤ 60000 from ha _ _ h2) (show nd.attrs.length ≤ 60000 from ha _ _ hn)⟩, h.2⟩
theorem Drop_play (hT : TreeAt w own ptr tb T) (hO : Owned own w) (hG : GoodT T) (id : Int) : Calls Try.prog 25 #[.pointer (some ⟨tb, 0, none⟩), .int .i64 id] w (PlayIs own w tb) := by
  obtain ⟨⟨d, hw⟩, ha⟩ := hG
  cases hi : T.get? id with
  | none => exact (Drop_none hT hO hi).mono fun e w' h => play_same hT hO ⟨⟨d, hw⟩, ha⟩ h
  | some nd =>
    by_cases harg : id = 0 ∨ 0 ≤ nd.parent
    · exact (Drop_arg hT hO hi harg).mono fun e w' h => play_same hT hO ⟨⟨d, hw⟩, ha⟩ h
    · obtain ⟨i, rfl, hn⟩ := nat_of hi
      have hp : nd.parent = -1 := by
        rcases hw.parent_cases hn with h | ⟨p, pd, h1, _⟩
        · exact h
        · omega
      exact (Drop_ok hT hO hw hn (by omega) hp).mono fun e w' h => ⟨⟨_, h.1⟩, _, ⟨⟨_, hw.rid hn hp (by omega)⟩, ha.rid _⟩, h.2⟩
theorem SetAttrs_play (hT : TreeAt w own ptr tb T) (hO : Owned own w) (hG : GoodT T) (id : Int) {av : Value} {attrs : List (ByteArray × ByteArray)} (hr : RowRd w 2 av attrs.length (attrCells attrs)) (hl : attrs.length ≤ 60000) :
    Calls Try.prog 24 #[.pointer (some ⟨tb, 0, none⟩), .int .i64 id, av] w (PlayIs own w tb) := by
  obtain ⟨⟨d, hw⟩, ha⟩ := hG
  cases hi : T.get? id with
  | none => exact (SetAttrs_none hT hi av).mono fun e w' h => play_same hT hO ⟨⟨d, hw⟩, ha⟩ h
  | some nd =>
    rcases tag_b (x := nd.tag) with ht | ht
    · exact (SetAttrs_kind hT hi ht av).mono fun e w' h => play_same hT hO ⟨⟨d, hw⟩, ha⟩ h
    · obtain ⟨i, rfl, hn⟩ := nat_of hi
      have hx := hw.text i nd hn
      exact (SetAttrs_ok hT hO hn ht hr hl).mono fun e w' h => ⟨⟨_, h.1⟩, T.setAt i { nd with attrs := attrs }, ⟨⟨_, hw.setAt (nd' := { nd with attrs := attrs }) hn rfl rfl hx.1 hx.2.1 (fun h => h) (fun _ => rfl)⟩, ha.setAt hl⟩, h.2⟩
theorem SetText_play (hT : TreeAt w own ptr tb T) (hO : Owned own w) (hG : GoodT T) (id : Int) (s : ByteArray) (hs : s.size ≤ 100000) :
    Calls Try.prog 23 #[.pointer (some ⟨tb, 0, none⟩), .int .i64 id, .string s] w (PlayIs own w tb) := by
  obtain ⟨⟨d, hw⟩, ha⟩ := hG
  cases hi : T.get? id with
  | none => exact (SetText_none hT hO hi s hs).mono fun e w' h => play_same hT hO ⟨⟨d, hw⟩, ha⟩ h
  | some nd =>
    by_cases ht : nd.tag = 0
    · by_cases hl : 8192 < (anewB s).size
      · exact (SetText_long hT hO hi (by simp [ht]) s hs hl).mono fun e w' h => play_same hT hO ⟨⟨d, hw⟩, ha⟩ h
      · obtain ⟨i, rfl, hn⟩ := nat_of hi
        have hx := hw.text i nd hn
        exact (SetText_ok hT hO hn (by simp [ht]) s hs (by omega)).mono fun e w' h => ⟨⟨_, h.1⟩, T.setAt i { nd with text := anewB s }, ⟨⟨_, hw.setAt (nd' := { nd with text := anewB s }) hn rfl rfl hx.1 hx.2.1 (fun h => h) (fun _ => rfl)⟩, ha.setAt (show nd.attrs.length ≤ 60000 from ha _ _ hn)⟩, h.2⟩
    · exact (SetText_kind hT hO hi (by simpa using ht) s hs).mono fun e w' h => play_same hT hO ⟨⟨d, hw⟩, ha⟩ h
theorem SetTag_play (hT : TreeAt w own ptr tb T) (hO : Owned own w) (hG : GoodT T) (id tag : Int) : Calls Try.prog 29 #[.pointer (some ⟨tb, 0, none⟩), .int .i64 id, .int .i64 tag] w (PlayIs own w tb) := by
  obtain ⟨⟨d, hw⟩, ha⟩ := hG
  cases hi : T.get? id with
  | none => exact (SetTag_none hT hi tag).mono fun e w' h => play_same hT hO ⟨⟨d, hw⟩, ha⟩ h
  | some nd =>
    rcases tag_b (x := nd.tag) with ht | ht
    · exact (SetTag_kind hT hi ht tag).mono fun e w' h => play_same hT hO ⟨⟨d, hw⟩, ha⟩ h
    · by_cases harg : ¬ (1 ≤ tag ∧ tag ≤ 16) ∨ id = 0
      · exact (SetTag_arg hT hi ht tag harg).mono fun e w' h => play_same hT hO ⟨⟨d, hw⟩, ha⟩ h
      · obtain ⟨i, rfl, hn⟩ := nat_of hi
        have hx := hw.text i nd hn
        exact (SetTag_ok hT hO hn ht tag (by omega) (by omega) (by omega)).mono fun e w' h => ⟨⟨_, h.1⟩, T.setAt i { nd with tag := tag }, ⟨⟨_, hw.setAt (nd' := { nd with tag := tag }) hn rfl rfl (by show 0 ≤ tag; omega) (by show tag ≤ 16; omega) (fun h => by have h' : tag = 0 := h; omega) (fun h => by omega)⟩, ha.setAt (show nd.attrs.length ≤ 60000 from ha _ _ hn)⟩, h.2⟩
theorem Graft_play {g : World} (hT : TreeAt w own ptr tb T) (hO : Owned own w) (hG : GoodT T) (p at' : Int) {n : PN} {nv : Value} (hr : RdN g n nv) (hap : Apart g own w) (hsh : n.short = true) (hsz : n.size ≤ 90000) :
    Calls Try.prog 31 #[.pointer (some ⟨tb, 0, none⟩), .int .i64 p, .int .i64 at', nv] w (PlayIs own w tb) := by
  obtain ⟨⟨d, hw⟩, ha⟩ := hG
  have hr0 := hr
  obtain ⟨av, kv, rfl, _, _⟩ := hr0.open
  cases hp : T.get? p with
  | none => exact (Graft_none hT hO hp _ _ _ _).mono fun e w' h => play_two hT hO ⟨⟨d, hw⟩, ha⟩ h
  | some pd =>
    rcases tag_b (x := pd.tag) with ht | ht
    · exact (Graft_kind hT hO hp ht _ _ _ _).mono fun e w' h => play_two hT hO ⟨⟨d, hw⟩, ha⟩ h
    · by_cases harg : at' < 0 ∨ (pd.kids.length : Int) < at'
      · exact (Graft_arg hT hO hp ht harg _ _ _ _).mono fun e w' h => play_two hT hO ⟨⟨d, hw⟩, ha⟩ h
      · obtain ⟨p', rfl, hpn⟩ := nat_of hp
        obtain ⟨a', rfl⟩ := Int.eq_ofNat_of_zero_le (show 0 ≤ at' by omega)
        have hal : a' ≤ pd.kids.length := by omega
        by_cases he : (PN.look 0 ⟨0, 0, 0⟩ n).e = 0
        · have hok : n.ok = true := ((look_spec n 0 ⟨0, 0, 0⟩).2.2.1 he).2
          by_cases hdp : T.deep < (d p' : Int) + 1 + n.high
          · exact (Graft_deep hT hO hw hpn ht hal hr hap hsh hsz hok hdp).mono fun e w' h => play_two hT hO ⟨⟨d, hw⟩, ha⟩ h
          · by_cases hf : (n.size : Int) ≤ T.cap - T.count
            · obtain ⟨dz, m, hm1, hm0, hm2, hPut⟩ := into_ok n hok T d hw (by omega) (by omega)
              obtain ⟨kd, hk1, hk2⟩ := hPut.node
              have hpm : p' ≠ m := fun e => hm2 pd (e ▸ hpn)
              obtain ⟨hap1, hap2⟩ := hPut.apart hw hm2 p' pd hpn
              have hgr : T.grafted p' a' pd n = (PN.into T n).link p' a' m pd kd := by
                unfold Tr.grafted; rw [hm1, Int.toNat_natCast, look_of hk1]
              have hi := into_attrs n hsh T ha
              refine (Graft_ok hT hO hw hpn ht hal hr hap hsh hsz hok (by omega) hf).mono fun e w' h => ⟨⟨_, h.1⟩, _, ⟨⟨_, hgr ▸ hPut.wf.link (hPut.old p' pd hpm hpn) hk1 (by simpa using ht) hm0 hk2 hap1 (by rw [hap2, hPut.deep, hPut.high]; omega)⟩, ?_⟩, h.2⟩
              rw [hgr, Tr.link_eq]
              exact hi.set2 (show pd.attrs.length ≤ 60000 from ha _ _ hpn) (show kd.attrs.length ≤ 60000 from hi _ _ hk1)
            · exact (Graft_full hT hO hw hpn ht hal hr hap hsh hsz hok (by omega) hf).mono fun e w' h => play_two hT hO ⟨⟨d, hw⟩, ha⟩ h
        · exact (Graft_bad hT hO hw hpn ht hal hr hap hsh hsz he).mono fun e w' h => play_two hT hO ⟨⟨d, hw⟩, ha⟩ h
end
end Go.Proofs.Ytiglflmjidikpaa

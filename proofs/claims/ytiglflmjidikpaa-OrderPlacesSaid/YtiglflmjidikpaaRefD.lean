/- quillworkref08: Element, Text. -/
import Derived.Test.YtiglflmjidikpaaRefC
namespace Go.Proofs.Ytiglflmjidikpaa
open Go Go.RowKit Go.BigFrame
set_option linter.unusedVariables false
set_option linter.unusedSimpArgs false

/-- two results, and the tree behind -/
def RTwoAft (F : Nat → Prop) (w : World) (rb : Nat) (x er : Int) (T : Tr) (e : Ending) (w' : World) : Prop := e = .returned (.tuple #[.int .i64 x, .int .i64 er]) ∧ RAft F w rb T w'
/-- a call of the document's tree: what is returned, and the tree behind -/
def RErr (F : Nat → Prop) (w : World) (rb : Nat) (er : Int) (T : Tr) (e : Ending) (w' : World) : Prop := e = .returned (.int .i64 er) ∧ RAft F w rb T w'
theorem rCountX {w : World} {rb : Nat} {T : Tr} (h : RAt w rb T) {d : Nat → Nat} (hw : WF T d) : Calls Try.prog 104 #[.pointer (some ⟨rb, 0, none⟩)] w (RVal (.int .i64 T.count) w) :=
  (rCount h hw).mono fun e w' k => ⟨k.1, by rw [k.2]; exact Ext.refl _⟩
section
variable {w : World} {F : Nat → Prop} {rb : Nat} {T : Tr}
set_option maxRecDepth 100000 in
set_option maxHeartbeats 1000000 in
theorem rElement_arg (tag : Int) (h : ¬ (1 ≤ tag ∧ tag ≤ 16)) (av : Value) (hR : RefOn w F rb T) : Calls Try.prog 103 #[.pointer (some ⟨rb, 0, none⟩), .int .i64 tag, av] w (RTwoAft F w rb 0 1 T) := by
  have H := Lib.hid (RAft.refl hR)
  clear hR
  by_cases h1 : tag < 1
  · clear h
    go_enter Try.func103, Try.ntmps103
    go_wp2_with fail
    go_ret2
    exact ⟨rfl, H.out⟩
  · have h2 : 16 < tag := by omega
    clear h
    go_enter Try.func103, Try.ntmps103
    go_wp2_with fail
    go_ret2
    exact ⟨rfl, H.out⟩
set_option maxRecDepth 100000 in
set_option maxHeartbeats 1000000 in
theorem rElement_full (tag : Int) (h1 : 1 ≤ tag) (h2 : tag ≤ 16) (av : Value) (hR : RefOn w F rb T) {d : Nat → Nat} (hw : WF T d) (h3 : T.cap ≤ T.count) : Calls Try.prog 103 #[.pointer (some ⟨rb, 0, none⟩), .int .i64 tag, av] w (RTwoAft F w rb 0 3 T) := by
  have H := Lib.hid (RAft.refl hR)
  obtain ⟨_, _, _, _, c0, _⟩ := hR.at.slice
  have HR := Lib.hid hR
  have HW := Lib.hid hw
  clear hR hw
  go_enter Try.func103, Try.ntmps103
  go_upto_region 3 with fail
  have e0 := fun u : ExtOf w => u.ext.cell c0
  refine wp_region_ext (by kernel_rfl) (by kernel_rfl) ?_
  repeat (go_big_quiet_step (first | (go_at_call 104; exact inExt (rCountX (HR.out.ext (ExtOf.ext _)).at HW.out))))
  refine wpQuiet_nil ?_
  rintro _ ⟨u, rfl⟩
  clear e0
  have HU := Lib.hid (H.out.ext u.ext)
  go_wp2_with fail
  go_ret2
  exact ⟨rfl, HU.out⟩
set_option maxRecDepth 100000 in
set_option maxHeartbeats 1000000 in
theorem rElement_ok (tag : Int) (h1 : 1 ≤ tag) (h2 : tag ≤ 16) {av : Value} {attrs : List (ByteArray × ByteArray)} (ha : RowRd w 2 av attrs.length (attrCells attrs)) (hn : attrs.length ≤ 60000) (hR : RefOn w F rb T) {d : Nat → Nat} (hw : WF T d) (h3 : T.count < T.cap) : Calls Try.prog 103 #[.pointer (some ⟨rb, 0, none⟩), .int .i64 tag, av] w (RTwoAft F w rb T.newId 0 (T.put ⟨tag, attrs, ByteArray.empty, [], -1⟩)) := by
  rw [show ByteArray.empty = (⟨#[]⟩ : ByteArray) from rfl]
  obtain ⟨ao, cap0, hav, _⟩ := ha.len_of
  subst hav
  obtain ⟨_, _, _, _, c0, _⟩ := hR.at.slice
  have hlen := hw.small.len
  have HR := Lib.hid hR
  have HW := Lib.hid hw
  have HA := Lib.hid ha
  clear hR hw ha
  go_enter Try.func103, Try.ntmps103
  go_upto_region 3 with fail
  have e0 := fun u : ExtOf w => u.ext.cell c0
  refine wp_region_ext (by kernel_rfl) (by kernel_rfl) ?_
  repeat (go_big_quiet_step (first | (go_at_call 104; exact inExt (rCountX (HR.out.ext (ExtOf.ext _)).at HW.out))))
  refine wpQuiet_nil ?_
  rintro _ ⟨u, rfl⟩
  clear e0
  have HU := Lib.hid u.ext
  have HP := Lib.hid (radd (HR.out.ext u.ext) hlen tag ⟨#[]⟩ _ attrs (HA.out.ext u.ext) hn)
  go_wp2_with (go_at_call 128; refine HP.out.mono ?_; rintro e w' ⟨rfl, hk⟩)
  go_ret2
  exact ⟨rfl, RAft.after HU.out hk⟩
set_option maxRecDepth 100000 in
set_option maxHeartbeats 1000000 in
theorem rText_long (s : ByteArray) (hs : s.size ≤ 100000) (h : 8192 < (anewB s).size) (hR : RefOn w F rb T) : Calls Try.prog 97 #[.pointer (some ⟨rb, 0, none⟩), .string s] w (RTwoAft F w rb 0 10 T) := by
  have H := Lib.hid (RAft.refl hR)
  have HC := Lib.hid (Anew_any s hs w)
  clear hR
  go_enter Try.func97, Try.ntmps97
  go_wp2_with (go_at_call 127; refine HC.out.mono ?_; rintro e w' ⟨rfl, hx⟩)
  go_ret2
  exact ⟨rfl, H.out.ext hx⟩
set_option maxRecDepth 100000 in
set_option maxHeartbeats 1000000 in
theorem rText_full (s : ByteArray) (hs : s.size ≤ 100000) (h : (anewB s).size ≤ 8192) (hR : RefOn w F rb T) {d : Nat → Nat} (hw : WF T d) (h3 : T.cap ≤ T.count) : Calls Try.prog 97 #[.pointer (some ⟨rb, 0, none⟩), .string s] w (RTwoAft F w rb 0 3 T) := by
  have H := Lib.hid (RAft.refl hR)
  have HR := Lib.hid hR
  have HW := Lib.hid hw
  have HC := Lib.hid (Anew_any s hs w)
  clear hR hw
  go_enter Try.func97, Try.ntmps97
  go_upto_region 4 with (go_at_call 127; refine HC.out.mono ?_; rintro e w1 ⟨rfl, hx⟩)
  obtain ⟨_, _, _, _, c0, _⟩ := (HR.out.ext hx).at.slice
  have e0 := fun u : ExtOf w1 => u.ext.cell c0
  have HX := Lib.hid hx
  clear hx
  refine wp_region_ext (by kernel_rfl) (by kernel_rfl) ?_
  repeat (go_big_quiet_step (first | (go_at_call 104; exact inExt (rCountX (HR.out.ext (HX.out.trans (ExtOf.ext _))).at HW.out))))
  refine wpQuiet_nil ?_
  rintro _ ⟨u, rfl⟩
  clear e0
  have HU := Lib.hid (H.out.ext (HX.out.trans u.ext))
  go_wp2_with fail
  go_ret2
  exact ⟨rfl, HU.out⟩
set_option maxRecDepth 100000 in
set_option maxHeartbeats 1000000 in
theorem rText_ok (s : ByteArray) (hs : s.size ≤ 100000) (h : (anewB s).size ≤ 8192) (hR : RefOn w F rb T) {d : Nat → Nat} (hw : WF T d) (h3 : T.count < T.cap) : Calls Try.prog 97 #[.pointer (some ⟨rb, 0, none⟩), .string s] w (RTwoAft F w rb T.newId 0 (T.put ⟨0, [], anewB s, [], -1⟩)) := by
  have hlen := hw.small.len
  have HR := Lib.hid hR
  have HW := Lib.hid hw
  have HC := Lib.hid (Anew_any s hs w)
  clear hR hw
  go_enter Try.func97, Try.ntmps97
  go_upto_region 4 with (go_at_call 127; refine HC.out.mono ?_; rintro e w1 ⟨rfl, hx⟩)
  obtain ⟨_, _, _, _, c0, _⟩ := (HR.out.ext hx).at.slice
  have e0 := fun u : ExtOf w1 => u.ext.cell c0
  have HX := Lib.hid hx
  clear hx
  refine wp_region_ext (by kernel_rfl) (by kernel_rfl) ?_
  repeat (go_big_quiet_step (first | (go_at_call 104; exact inExt (rCountX (HR.out.ext (HX.out.trans (ExtOf.ext _))).at HW.out))))
  refine wpQuiet_nil ?_
  rintro _ ⟨u, rfl⟩
  clear e0
  have HU := Lib.hid (HX.out.trans u.ext)
  have HP := Lib.hid (radd (HR.out.ext HU.out) hlen 0 (anewB s) (.slice none 0 0) [] ⟨rfl, none, 0, rfl, Nat.le_refl _, fun _ => ⟨rfl, rfl⟩, fun a h => by cases h⟩ (by simp))
  go_wp2_with (go_at_call 128; refine HP.out.mono ?_; rintro e w' ⟨rfl, hk⟩)
  go_ret2
  exact ⟨rfl, RAft.after HU.out hk⟩
end
end Go.Proofs.Ytiglflmjidikpaa

/- Trees: Text (the program). -/
import Derived.Test.YtikfeemmjfoffaaDoorW11
import Derived.Test.YtikfeemmjfoffaaDoorP5
set_option linter.unusedVariables false
set_option linter.unusedSimpArgs false
namespace Go.Proofs.YtikfeemmjfoffaaDoor
open Go.RowKit Go.Shelf

theorem info9 : (Tryd.prog.info? 9).map (fun i => (i.zero, i.size, i.bytes)) = some (some (.string ⟨#[]⟩), 1, 16) := by kernel_rfl
def strs (l : List (List UInt8)) : List Value := l.map fun b => .string ⟨b.toArray⟩
@[simp] theorem strs_length (l : List (List UInt8)) : (strs l).length = l.length := by simp [strs]
theorem strs_one (l : List (List UInt8)) : ∀ u ∈ strs l, u.oneCell' = true := by
  intro u hu
  obtain ⟨x, _, rfl⟩ := List.mem_map.1 hu
  rfl
/-- The words of the text. -/
def wordsT (t : Tr) : List (List UInt8) := ((numsT t).map Int.toNat).map dig2
@[simp] theorem wordsT_length (t : Tr) : (wordsT t).length = (numsT t).length := by simp [wordsT]
theorem wordsT_take {t : Tr} {k : Nat} (h : k < (numsT t).length) : strs ((wordsT t).take (k + 1)) = strs ((wordsT t).take k) ++ [.string ⟨(dig2 (ia (numsT t) k).toNat).toArray⟩] := by
  rw [List.take_succ_eq_append_getElem (by simpa using h)]
  simp only [strs, List.map_append, List.map_cons, List.map_nil]
  congr 3
  simp [wordsT, ia, List.getD_eq_getElem?_getD, List.getElem?_eq_getElem h]
theorem itoa30 {n : Nat} (h : n ≤ 99) (w : World) : Calls Tryd.prog 30 #[.int .i64 (n : Int)] w fun e w' => e = .returned (.string ⟨(dig2 n).toArray⟩) ∧ w = w' := by
  refine (Tryd.strconv_Itoa_small n (by omega) w).mono fun e w' ⟨h1, h2⟩ => ⟨?_, h2.symm⟩
  rw [h1, decDigits_dig2 h]
theorem joinT (t : Tr) (g : Good t) (gb cap : Nat) (rest : List Value) (w : World) (og : Own w gb 9 (strs (wordsT t) ++ rest)) (hc : (numsT t).length ≤ cap) :
    Calls Tryd.prog 32 #[.slice (some ⟨gb, 0, none⟩) (numsT t).length cap, .string ⟨#[32]⟩] w fun e w' => e = .returned (.string ⟨(textT t).toArray⟩) ∧ Kept w w' := by
  have e0 : ((wordsT t).map fun b => (⟨b.toArray⟩ : ByteArray)).map (·.data.toList) = wordsT t := by
    rw [List.map_map]; exact List.map_id'' (fun b => rfl) _
  have e1 : ((wordsT t).map fun b => (⟨b.toArray⟩ : ByteArray)).length = (numsT t).length := by simp
  have e2 : Lib.join (wordsT t) [32] = textT t := join_text _
  have hl := g.len
  have ht := textN_len ((numsT t).map Int.toNat)
  have := Tryd.strings_Join gb 0 cap ((wordsT t).map fun b => (⟨b.toArray⟩ : ByteArray)) ⟨#[32]⟩ w (fun j x hj => by
      rw [Nat.zero_add]
      refine og.cell ?_
      rw [List.getElem?_append_left (by have := (List.getElem?_eq_some_iff.1 hj).1; simpa using this)]
      simp only [List.getElem?_map] at hj
      simp only [strs, List.getElem?_map]
      obtain ⟨b, hb, rfl⟩ := Option.map_eq_some_iff.1 hj
      rw [hb]; rfl) og.lt (by rw [e1]; omega) (by rw [e1]; exact hc) (by
      rw [e0]
      show (Lib.join (wordsT t) [32]).length ≤ _
      rw [e2]; unfold textT
      simp only [List.length_map] at ht
      omega)
  rw [e0, e1] at this
  have e3 : Lib.join (wordsT t) (⟨#[32]⟩ : ByteArray).data.toList = textT t := e2
  rw [e3] at this
  exact this
def TextPost (t : Tr) (w : World) (e : Ending) (w' : World) : Prop :=
  e = .returned (.tuple (if validT t = true then (if (textT t).length ≤ 40000 then #[.string ⟨(textT t).toArray⟩, .int .i64 0] else #[.string ⟨#[]⟩, .int .i64 5]) else #[.string ⟨#[]⟩, .int .i64 1])) ∧ Kept w w'
set_option maxRecDepth 100000 in
set_option maxHeartbeats 1000000 in
theorem text11_yes (t : Tr) (hv : validT t = true) (A : Option Addr) (c : Nat) (T : Option Addr) (d : Nat) (w : World) (hA : Rd w A (ints t.lv)) (hT : RT w T t.tb) :
    Calls Tryd.prog 11 #[trV t A c T d] w (TextPost t w) := by
  have g := good_of hv
  have h63 := g.tb64; have h64 := g.lv64
  have hlen := g.len
  have hne : 2 ≤ (numsT t).length := by simp [numsT]
  obtain ⟨n, hn⟩ : ∃ n, n = (numsT t).length := ⟨_, rfl⟩
  have o0 := Own.new w 25 [.int .i64 t.h, .int .i64 t.b, .slice A t.lv.length c, .slice T t.tb.length d]
  have K0 := kept_alloc (kept_refl w) (.cells #[.int .i64 t.h, .int .i64 t.b, .slice A t.lv.length c, .slice T t.tb.length d] 25)
  have q0 := o0.cell (j := 0) rfl; have q1 := o0.cell (j := 1) rfl; have q2 := o0.cell (j := 2) rfl; have q3 := o0.cell (j := 3) rfl
  have C1 := valid18_any t.h t.b A c t.lv T d t.tb _ (hA.kept K0) (hT.kept K0) (by omega) (by omega)
  rw [show validT ⟨t.h, t.b, t.lv, t.tb⟩ = true from hv] at C1
  have C2 := Lib.hid fun (w' : World) (k : Kept w w') => numbers31_any t g A c T d w' (hA.kept k) (hT.kept k)
  have H99 := Lib.hid g.nums
  have CJ := Lib.hid (joinT t g)
  obtain ⟨s, hs⟩ : ∃ s : ByteArray, s = ⟨(textT t).toArray⟩ := ⟨_, rfl⟩
  have hsz : s.size = (textT t).length := by rw [hs]; rfl
  rw [← hs] at CJ
  have HP : ∀ w', Kept w w' → ((textT t).length ≤ 40000 → TextPost t w (.returned (.tuple #[.string s, .int .i64 0])) w') ∧ (¬ (textT t).length ≤ 40000 → TextPost t w (.returned (.tuple #[.string ⟨#[]⟩, .int .i64 5])) w') := fun w' k =>
    ⟨fun h => ⟨by rw [if_pos hv, if_pos h, hs], k⟩, fun h => ⟨by rw [if_pos hv, if_neg h], k⟩⟩
  have HPH := Lib.hid HP
  rw [← hn] at hlen hne CJ
  have HN := Lib.hid hn
  have HSZ := Lib.hid hsz
  clear hv g hA hT hn hsz hs HP
  go_enter Tryd.func11, Tryd.ntmps11
  go_wp2_with (first | (go_at_call 18; ((with_reducible refine C1.mono ?_); rintro e w1 ⟨rfl, k1⟩; replace q0 := kept_cell k1 q0; replace q1 := kept_cell k1 q1; replace q2 := kept_cell k1 q2; replace q3 := kept_cell k1 q3; have kk := kept_trans K0 k1)) | (go_at_call 31; ((with_reducible refine (C2.out _ kk).mono ?_); rintro e w2 ⟨v, rfl, hr0, k2⟩; obtain ⟨An, cn, rfl, hr1⟩ := row_form hr0; have rn := row_rd hr1; rw [← HN.out]; have kw := kept_trans kk k2)))
  clear q0 q1 q2 q3 o0 C1 k1 kk k2 hr0 hr1 K0
  have hw2 := kw.size
  go_loopg [4, 14] n (fun g' s4 s14 wr => ∃ (k : Nat), k ≤ n ∧ g' = n - k ∧ wr.ownsRow w2.heap.size 9 1 s4 k (strs ((wordsT t).take k)) ∧ s14 = .int .i64 k ∧ Kept w wr ∧ Kept w2 wr)
  case atStart => exact ⟨0, by omega, by omega, World.ownsRow_nil _ _ _ _, rfl, kw, kept_refl _⟩
  case round =>
    clear kw
    obtain ⟨k, hk, rfl, hr, rfl, kw, kw2⟩ := hrel
    have sz := kw2.size
    by_cases hlt : k < n
    · have hlt2 : k < (numsT t).length := by have := HN.out; omega
      obtain ⟨b1, f1, rfl, h1⟩ := rn.int hlt2
      have a0 := kept_cell kw2 (h1 k hlt2)
      have hx := H99.out (ia (numsT t) k) (ia_mem hlt2)
      have hW := wordsT_take hlt2
      obtain ⟨x, e1⟩ : ∃ x : Nat, ia (numsT t) k = x := ⟨(ia (numsT t) k).toNat, by omega⟩
      rw [e1] at a0 hx hW
      rw [Int.toNat_natCast] at hW
      have hW' := Lib.hid hW
      clear h1 e1 hW
      have CI := Lib.hid (itoa30 (n := x) (by omega))
      obtain ⟨dg, hdg⟩ : ∃ dg : ByteArray, dg = ⟨(dig2 x).toArray⟩ := ⟨_, rfl⟩
      rw [← hdg] at CI hW'
      clear hdg
      obtain ⟨F, hF⟩ : ∃ F, F = strs ((wordsT t).take k) := ⟨_, rfl⟩
      rw [← hF] at hr hW'
      clear hF
      go_wp2_with (first | (go_at_call 30; ((with_reducible refine (CI.out _).mono ?_); rintro e w3 ⟨rfl, rfl⟩)) | (at_builtin; refine app_law w2.heap.size rfl (.tmp 18) (.tmp 21) 61 9 (.string ⟨#[]⟩) 1 16 rfl Tryd.underlying61 info9 rfl (by omega) (by omega) u4 k 1 F [.string dg] rfl rfl rfl (by simp [Value.oneCell']) hr sz (by omega) ?_; intro v3 w3 hr3 hg3 hat3))
      have k3 : Kept w w3 := kept_grown kw hr hw2 hg3
      have k32 : Kept w2 w3 := kept_grown kw2 hr (Nat.le_refl _) hg3
      clear hg3 hat3 hr CI
      go_wp2_with fail
      go_roundg (n - (k + 1))
      case rel => exact ⟨k + 1, by omega, rfl, by rw [hW'.out]; exact hr3, by go_num, k3, k32⟩
      case measure => omega
    · have : k = n := by omega
      subst this
      have hlw : (wordsT t).length = k := by rw [wordsT_length, HN.out]
      rw [← hlw, List.take_length, hlw] at hr
      obtain ⟨gb, cap, rest, rfl, _, og, hc1, _⟩ := row_own hr (by omega)
      have C3 := Lib.hid (CJ.out gb cap rest wr og hc1)
      clear hr og CJ hlw
      by_cases hb : (textT t).length ≤ 40000
      · have d1 : decide ((40000 : Int) < (s.size : Int)) = false := decide_eq_false (by rw [HSZ.out]; omega)
        have d2 : decide (40000 < s.size) = false := decide_eq_false (by rw [HSZ.out]; omega)
        have HB := Lib.hid hb; clear hb
        go_wp2_with (go_at_call 32; ((with_reducible refine C3.out.mono ?_); rintro e w4 ⟨rfl, k4⟩))
        go_ret2
        exact (HPH.out _ (kept_trans kw k4)).1 HB.out
      · have d1 : decide ((40000 : Int) < (s.size : Int)) = true := decide_eq_true (by rw [HSZ.out]; omega)
        have d2 : decide (40000 < s.size) = true := decide_eq_true (by rw [HSZ.out]; omega)
        have HB := Lib.hid hb; clear hb
        go_wp2_with (go_at_call 32; ((with_reducible refine C3.out.mono ?_); rintro e w4 ⟨rfl, k4⟩))
        go_ret2
        exact (HPH.out _ (kept_trans kw k4)).2 HB.out
set_option maxRecDepth 100000 in
set_option maxHeartbeats 1000000 in
theorem text11_no (t : Tr) (hv : validT t = false) (A : Option Addr) (c : Nat) (T : Option Addr) (d : Nat) (w : World) (hA : Rd w A (ints t.lv)) (hT : RT w T t.tb) (hl : t.lv.length ≤ 140737488355328) (ht : t.tb.length ≤ 140737488355328) :
    Calls Tryd.prog 11 #[trV t A c T d] w (TextPost t w) := by
  have o0 := Own.new w 25 [.int .i64 t.h, .int .i64 t.b, .slice A t.lv.length c, .slice T t.tb.length d]
  have K0 := kept_alloc (kept_refl w) (.cells #[.int .i64 t.h, .int .i64 t.b, .slice A t.lv.length c, .slice T t.tb.length d] 25)
  have q0 := o0.cell (j := 0) rfl; have q1 := o0.cell (j := 1) rfl; have q2 := o0.cell (j := 2) rfl; have q3 := o0.cell (j := 3) rfl
  have C1 := valid18_any t.h t.b A c t.lv T d t.tb _ (hA.kept K0) (hT.kept K0) hl ht
  rw [show validT ⟨t.h, t.b, t.lv, t.tb⟩ = false from hv] at C1
  have HPH := Lib.hid (show ∀ w', Kept w w' → TextPost t w (.returned (.tuple #[.string ⟨#[]⟩, .int .i64 1])) w' from fun w' k => ⟨by rw [hv]; rfl, k⟩)
  clear hv hA hT
  go_enter Tryd.func11, Tryd.ntmps11
  go_wp2_with (go_at_call 18; ((with_reducible refine C1.mono ?_); rintro e w1 ⟨rfl, k1⟩; have kk := kept_trans K0 k1))
  go_ret2
  exact HPH.out _ kk
theorem text11_any (t : Tr) (A : Option Addr) (c : Nat) (T : Option Addr) (d : Nat) (w : World) (hA : Rd w A (ints t.lv)) (hT : RT w T t.tb) (hl : t.lv.length ≤ 140737488355328) (ht : t.tb.length ≤ 140737488355328) :
    Calls Tryd.prog 11 #[trV t A c T d] w (TextPost t w) := by
  cases hv : validT t with
  | true => exact text11_yes t hv A c T d w hA hT
  | false => exact text11_no t hv A c T d w hA hT hl ht
end Go.Proofs.YtikfeemmjfoffaaDoor

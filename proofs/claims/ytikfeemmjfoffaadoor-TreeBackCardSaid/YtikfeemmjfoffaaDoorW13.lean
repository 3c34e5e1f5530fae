/- Trees: Text (the reference). -/
import Derived.Test.YtikfeemmjfoffaaDoorW12
import Derived.Lib.AppendStr
import Derived.Lib.SlBytesRow
set_option linter.unusedVariables false
set_option linter.unusedSimpArgs false
namespace Go.Proofs.YtikfeemmjfoffaaDoor
open Go.RowKit Go.Shelf

theorem info5 : (Tryd.prog.info? 5).map (fun i => (i.zero, i.size, i.bytes)) = some (some (.int .u8 0), 1, 1) := by kernel_rfl
def bys (l : List UInt8) : List Value := l.map fun b => .int .u8 b.toNat
@[simp] theorem bys_length (l : List UInt8) : (bys l).length = l.length := by simp [bys]
theorem bys_append (l m : List UInt8) : bys l ++ bys m = bys (l ++ m) := by simp [bys]
theorem bys_str (l : List UInt8) : Lib.strCells ⟨l.toArray⟩ = bys l := rfl
section
variable {P : Program} {ops : Array Oper} {rest : List Oper} {o : Oper} {a : Act} {Q : Exit → Act → World → Prop}
/-- append(b, s...) where s is a string. -/
theorem app_str {W : World} (B : Nat) (hgd : o.guard = none) (s x : Operand) (t u e : TypeId)
    (ho : o.op = .call { callee := .builtin .append, args := #[s, x], argTypes := #[t, u] })
    (ht : P.underlying t = some (.slice e)) (hu : P.underlying u = some .string) (hinfo : (P.info? e).map (fun i => (i.zero, i.size, i.bytes)) = some (some (.int .u8 0), 1, 1))
    (v : Value) (n : Nat) (xs ys : List UInt8) (hs : a.eval s = v) (hx : a.eval x = .string ⟨ys.toArray⟩)
    (HO : W.ownsRow B e 1 v n (bys xs)) (hB : B ≤ W.heap.size) (hl : n + ys.length ≤ 140737488355328)
    (h : ∀ v1 w1, w1.ownsRow B e 1 v1 (n + ys.length) (bys (xs ++ ys)) → W.grownBy w1 v.ownBlock → wpList P ops Q rest (a.put o.dst v1) w1) :
    wpList P ops Q (o :: rest) a W := by
  obtain ⟨i0, hi, hzz⟩ := Option.map_eq_some_iff.1 hinfo
  simp only [Prod.mk.injEq] at hzz
  obtain ⟨hz0, hz1, hz2⟩ := hzz
  refine Lib.wpList_append_own_string W hgd s x t u ho B e i0 ht hu hi hz0 hz1 hz2 v n (bys xs) hs HO ⟨ys.toArray⟩ hx (by show n + ys.length ≤ maxLen; simp only [maxLen]; omega) hl hB ?_
  intro v1 w1 h1 h2 _
  refine h v1 w1 ?_ h2
  rw [bys_str, bys_append] at h1
  exact h1
end
/-- string(b) of bytes that are read. -/
theorem conv_str {w : World} {g cap : Nat} {l : List UInt8} {rest : List Value} (h : Own w g 5 (bys l ++ rest)) : (convert 59 9 (.slice (some ⟨g, 0, none⟩) l.length cap)).run Tryd.prog w = .ok (.string ⟨l.toArray⟩) w := by
  have := Lib.run_convert_whole (P := Tryd.prog) w 59 5 9 Tryd.underlying59 Tryd.underlying5 Tryd.underlying9 g 0 ⟨l.toArray⟩ (fun i hi => by
    rw [Nat.zero_add]
    have hi' : i < l.length := hi
    refine h.cell ?_
    rw [List.getElem?_append_left (by simpa using hi')]
    simp only [bys, List.getElem?_map, List.getElem?_eq_getElem hi', Option.map_some]
    rfl) cap
  exact this

def numsTo (t : Tr) (k : Nat) : List Int := t.h :: t.b :: (t.lv ++ (t.tb.take k).flatten)
theorem numsTo_succ {t : Tr} {k : Nat} (h : k < t.tb.length) : numsTo t (k + 1) = numsTo t k ++ t.tb.getD k [] := by
  unfold numsTo; rw [flatten_take h]; simp
theorem numsTo_all (t : Tr) : numsTo t t.tb.length = numsT t := by unfold numsTo; rw [List.take_length]; rfl
theorem numsTo_len (t : Tr) (k : Nat) : (numsTo t k).length ≤ (numsT t).length := by
  have := flatten_take_len t.tb k
  simp only [numsTo, numsT, List.length_cons, List.length_append]
  omega
/-- The text of the first k numbers. -/
def txt (t : Tr) (k : Nat) : List UInt8 := textN (((numsT t).take k).map Int.toNat)
theorem txt_succ {t : Tr} {k : Nat} (h : k < (numsT t).length) : txt t (k + 1) = txt t k ++ (if k = 0 then [] else [32]) ++ dig2 (ia (numsT t) k).toNat := by
  unfold txt
  rw [List.take_succ_eq_append_getElem h, List.map_append, List.map_cons, List.map_nil, textN_snoc]
  have e1 : ia (numsT t) k = (numsT t)[k] := by simp [ia, List.getD_eq_getElem?_getD, List.getElem?_eq_getElem h]
  rw [e1]
  congr 2
  by_cases h0 : k = 0
  · subst h0; simp
  · rw [if_neg h0, if_neg]
    intro h1
    have := congrArg List.length h1
    simp at this
    rcases this with h2 | h2
    · exact h0 h2
    · rw [h2] at h; simp at h
theorem txt_all (t : Tr) : txt t (numsT t).length = textT t := by unfold txt; rw [List.take_length]; rfl
theorem txt_len (t : Tr) (k : Nat) : (txt t k).length ≤ 3 * (numsT t).length := by
  have := textN_len (((numsT t).take k).map Int.toNat)
  unfold txt
  simp only [List.length_map, List.length_take] at this
  omega

set_option maxRecDepth 100000 in
set_option maxHeartbeats 1000000 in
theorem rtext10_any (t : Tr) (g : Good t) (A : Option Addr) (c : Nat) (T : Option Addr) (d : Nat) (w : World) (hA : Rd w A (ints t.lv)) (hT : RT w T t.tb) :
    Calls Tryd.prog 10 #[trV t A c T d] w fun e w' => e = .returned (.string ⟨(textT t).toArray⟩) ∧ Kept w w' := by
  have h63 := g.tb64; have h64 := g.lv64
  have hlen := g.len
  have o0 := Own.new w 25 [.int .i64 t.h, .int .i64 t.b, .slice A t.lv.length c, .slice T t.tb.length d]
  obtain ⟨W2, hW2⟩ : ∃ x, x = (w.alloc (.cells #[.int .i64 t.h, .int .i64 t.b, .slice A t.lv.length c, .slice T t.tb.length d] 25)).alloc (.cells #[.int .i64 t.h, .int .i64 t.b] 3) := ⟨_, rfl⟩
  have K2 : Kept w W2 := by rw [hW2]; exact kept_alloc (kept_alloc (kept_refl w) _) _
  have O2 : Own W2 (w.heap.size + 1) 3 (ints [t.h, t.b]) := by
    rw [hW2]
    have := Own.new (w.alloc (.cells #[.int .i64 t.h, .int .i64 t.b, .slice A t.lv.length c, .slice T t.tb.length d] 25)) 3 (ints [t.h, t.b])
    simpa [ints] using this
  have OB : Own W2 w.heap.size 25 [.int .i64 t.h, .int .i64 t.b, .slice A t.lv.length c, .slice T t.tb.length d] := by rw [hW2]; exact o0.alloc _
  have R2 := O2.row (w.heap.size + 1) 1 2 (by omega) rfl (by omega)
  have S2 : w.heap.size + 1 ≤ W2.heap.size := by have := O2.lt; omega
  have q0 := o0.cell (j := 0) rfl; have q1 := o0.cell (j := 1) rfl; have q2 := o0.cell (j := 2) rfl; have q3 := o0.cell (j := 3) rfl
  have HA := Lib.hid (hA.kept K2); have HT := Lib.hid hT; have HL := Lib.hid hlen
  have H99 := Lib.hid g.nums
  have HW := Lib.hid hW2
  clear hA hT g hlen hW2 o0
  go_enter Tryd.func10, Tryd.ntmps10
  go_wp2_with (at_builtin; rw [← HW.out]; refine app_any (w.heap.size + 1) rfl (.tmp 11) (.tmp 13) 22 3 (.int .i64 0) 1 8 rfl Tryd.underlying22 info3 rfl (by omega) (by omega) (.slice (some ⟨w.heap.size + 1, 0, none⟩) 2 2) 2 t.lv.length c A (ints [t.h, t.b]) (ints t.lv) rfl rfl (by simp) HA.out (one_ints _) R2 S2 (by omega) ?_; intro v3 w3 hr3 hg3 _)
  have k3 : Kept w w3 := kept_grown K2 R2 (by omega) hg3
  have o3 := OB.grown hg3 (by intro h; simp [Value.ownBlock] at h)
  rw [ints_append] at hr3
  clear hg3 R2 O2 OB S2 K2 q0 q1 q2 q3
  have E0 : numsTo t 0 = [t.h, t.b] ++ t.lv := by simp [numsTo]
  rw [← E0, show 2 + t.lv.length = (numsTo t 0).length by simp [numsTo]; omega] at hr3
  clear E0
  go_wp2_with fail
  go_loopg [3, 4] t.tb.length (fun g' s3 s4 wr => ∃ (k : Nat), k ≤ t.tb.length ∧ g' = t.tb.length - k ∧ wr.ownsRow (w.heap.size + 1) 3 1 s3 (numsTo t k).length (ints (numsTo t k)) ∧ s4 = .int .i64 k ∧ Kept w wr ∧ Own wr w.heap.size 25 [.int .i64 t.h, .int .i64 t.b, .slice A t.lv.length c, .slice T t.tb.length d])
  case atStart => exact ⟨0, by omega, by omega, hr3, rfl, k3, o3⟩
  case round =>
    clear hr3 k3 o3
    obtain ⟨k, hk, rfl, hr, rfl, kw, o3⟩ := hrel
    have q0 := o3.cell (j := 0) rfl; have q1 := o3.cell (j := 1) rfl; have q2 := o3.cell (j := 2) rfl; have q3 := o3.cell (j := 3) rfl
    have sz : w.heap.size + 1 ≤ wr.heap.size := o3.lt
    by_cases hlt : k < t.tb.length
    · obtain ⟨tb1, toff, A1, c1, rfl, t0, r1, l1⟩ := (HT.out.kept kw) k hlt
      have hf := numsTo_succ hlt
      have hle := numsTo_len t (k + 1)
      obtain ⟨L, hL⟩ : ∃ L, L = t.tb.getD k [] := ⟨_, rfl⟩
      rw [← hL] at t0 r1 l1 hf
      obtain ⟨F, hF⟩ : ∃ F, F = numsTo t k := ⟨_, rfl⟩
      rw [← hF] at hr hf
      have hsum : F.length + L.length ≤ 1000000 := by rw [hf, List.length_append] at hle; have := HL.out; omega
      have HF := Lib.hid hf; clear hf hL hF hle
      go_wp2_with (at_builtin; refine app_any (w.heap.size + 1) rfl (.tmp 22) (.tmp 27) 22 3 (.int .i64 0) 1 8 rfl Tryd.underlying22 info3 rfl (by omega) (by omega) u3 F.length L.length c1 A1 (ints F) (ints L) rfl rfl (by simp) r1 (one_ints _) hr sz (by omega) ?_; intro v3 w3 hr3 hg3 hat3)
      have k3 : Kept w w3 := kept_grown kw hr (by omega) hg3
      have o4 := o3.grown hg3 (by intro h; have := (hr.lt _ h.symm).1; omega)
      clear hg3 hat3 hr
      go_wp2_with fail
      go_roundg (t.tb.length - (k + 1))
      case rel => exact ⟨k + 1, by omega, rfl, by rw [HF.out, List.length_append, ← ints_append]; exact hr3, by go_num, k3, o4⟩
      case measure => omega
    · have : k = t.tb.length := by omega
      subst this
      rw [numsTo_all] at hr
      obtain ⟨n, hn⟩ : ∃ n, n = (numsT t).length := ⟨_, rfl⟩
      have hn2 : 2 ≤ n := by rw [hn]; simp [numsT]
      have hnb : n ≤ 270000 := by rw [hn]; exact HL.out
      obtain ⟨gl, cl, rl, rfl, hgl, ol, hc1, _⟩ := row_own hr (by omega)
      rw [← hn]
      have HN := Lib.hid hn; clear hn
      clear hr hgl
      go_wp2_with fail
      clear q0 q1 q2 q3 o3
      obtain ⟨wo, rfl⟩ : ∃ wo : World, wo = wr := ⟨_, rfl⟩
      go_loopg [5, 6] n (fun g' s5 s6 wr => ∃ (k : Nat), k ≤ n ∧ g' = n - k ∧ wr.ownsRow wo.heap.size 5 1 s5 (txt t k).length (bys (txt t k)) ∧ s6 = .int .i64 k ∧ Kept wo wr)
      case atStart => exact ⟨0, by omega, by omega, World.ownsRow_nil _ _ _ _, rfl, kept_refl _⟩
      case round =>
        obtain ⟨k, hk, rfl, hr, rfl, k4⟩ := hrel
        have sz := k4.size
        by_cases hlt : k < n
        · have hlt2 : k < (numsT t).length := by have := HN.out; omega
          have a0 := (ol.kept k4).pre hlt2
          have A0 := ol.pre hlt2
          have hx := H99.out (ia (numsT t) k) (ia_mem hlt2)
          have hS := txt_succ hlt2
          have tl := txt_len t k
          obtain ⟨x, e1⟩ : ∃ x : Nat, ia (numsT t) k = x := ⟨(ia (numsT t) k).toNat, by omega⟩
          rw [e1] at a0 A0 hx hS
          rw [Int.toNat_natCast] at hS
          have HA0 := Lib.hid A0
          have hl2 := dig2_len x
          clear A0
          have CI := Lib.hid (itoa30 (n := x) (by omega))
          obtain ⟨dg, hdg⟩ : ∃ dg, dg = dig2 x := ⟨_, rfl⟩
          rw [← hdg] at CI hS hl2
          obtain ⟨F, hF⟩ : ∃ F, F = txt t k := ⟨_, rfl⟩
          rw [← hF] at hr hS tl
          have htl : F.length ≤ 900000 := by have := HL.out; omega
          by_cases h0 : k = 0
          · subst h0
            rw [if_pos rfl, List.append_nil] at hS
            have HS := Lib.hid hS
            clear e1 hdg hF hS tl
            go_wp2_with (first | (go_at_call 30; ((with_reducible refine (CI.out _).mono ?_); rintro e w5 ⟨rfl, rfl⟩)) | (at_builtin; refine app_str wo.heap.size rfl (.tmp 40) (.tmp 45) 59 9 5 rfl Tryd.underlying59 Tryd.underlying9 info5 u5 F.length F dg rfl rfl hr sz (by omega) ?_; intro v5 w5 hr5 hg5))
            have k5 : Kept wo w5 := kept_grown k4 hr (Nat.le_refl _) hg5
            clear hg5 hr
            go_wp2_with fail
            go_roundg (n - (0 + 1))
            case rel => exact ⟨0 + 1, by omega, rfl, by rw [HS.out, List.length_append]; exact hr5, by go_num, k5⟩
            case measure => omega
          · have hk0 : 0 < k := by omega
            rw [if_neg h0] at hS
            have HS := Lib.hid hS
            clear e1 hdg hF hS tl h0
            go_wp2_with (first | (at_builtin; refine app_law wo.heap.size rfl (.tmp 37) (.tmp 38) 59 5 (.int .u8 0) 1 1 rfl Tryd.underlying59 info5 rfl (by omega) (by omega) u5 F.length 1 (bys F) (bys [32]) rfl rfl rfl (by simp [bys, Value.oneCell']) hr sz (by omega) ?_; intro v5 w5 hr5 hg5 _; have k5 : Kept wo w5 := kept_grown k4 hr (Nat.le_refl _) hg5; have sz5 := k5.size; replace a0 := kept_cell k5 HA0.out; rw [bys_append] at hr5) | (go_at_call 30; ((with_reducible refine (CI.out _).mono ?_); rintro e w6 ⟨rfl, rfl⟩)) | (at_builtin; refine app_str wo.heap.size rfl (.tmp 40) (.tmp 45) 59 9 5 rfl Tryd.underlying59 Tryd.underlying9 info5 v5 (F.length + 1) (F ++ [32]) dg rfl rfl hr5 sz5 (by omega) ?_; intro v6 w6 hr6 hg6))
            have k6 : Kept wo w6 := kept_grown k5 hr5 (Nat.le_refl _) hg6
            clear hg6 hg5 hr5
            go_wp2_with fail
            go_roundg (n - (k + 1))
            case rel => exact ⟨k + 1, by omega, rfl, by rw [HS.out, List.length_append, List.length_append]; exact hr6, by go_num, k6⟩
            case measure => omega
        · have : k = n := by omega
          subst this
          have e1 : txt t k = textT t := by rw [HN.out]; exact txt_all t
          rw [e1] at hr
          have ht0 : (textT t).length ≠ 0 := by
            have hS := txt_succ (t := t) (k := 0) (by have := HN.out; omega)
            intro h0
            have h1 : textT t = [] := List.eq_nil_of_length_eq_zero h0
            have h2 : (numsT t).map Int.toNat ≠ [] := by intro h; have := congrArg List.length h; simp at this; have h3 := HN.out; rw [this] at h3; simp at h3; omega
            unfold textT at h1
            obtain ⟨m, l, e⟩ := List.exists_cons_of_ne_nil h2
            rw [e] at h1
            cases l with
            | nil => simp [textN, dig2] at h1; split at h1 <;> simp at h1
            | cons m2 l => rw [textN_cons _ (by simp)] at h1; simp at h1
          obtain ⟨gb, cb, rb, rfl, _, ob, _⟩ := row_own hr ht0
          have CV := conv_str (cap := cb) ob
          obtain ⟨M, hM⟩ : ∃ M, M = (textT t).length := ⟨_, rfl⟩
          rw [← hM] at CV ⊢
          clear hM hr ht0 e1 ob
          go_wp2_with fail
          go_ret
          exact ⟨rfl, kept_trans kw k4⟩
end Go.Proofs.YtikfeemmjfoffaaDoor

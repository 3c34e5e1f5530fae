/- Polynomials: the reference's Text. -/
import Derived.Test.YtnjmpjdampdmmaaDoorC24
import Derived.Lib.AppendStr
import Derived.Lib.SlBytesRow
set_option linter.unusedVariables false
set_option linter.unusedSimpArgs false
namespace Go.Proofs.YtnjmpjdampdmmaaDoor
open Go.RowKit Go.Shelf

theorem bys_str (l : List UInt8) : Lib.strCells ⟨l.toArray⟩ = bys l := rfl
section
variable {P : Program} {ops : Array Oper} {rest : List Oper} {o : Oper} {a : Act} {Q : Exit → Act → World → Prop}
/-- append(b, s...) where s is a string. -/
theorem app_str {W : World} (B : Nat) (hgd : o.guard = none) (s x : Operand) (t u e : TypeId)
    (ho : o.op = .call { callee := .builtin .append, args := #[s, x], argTypes := #[t, u] })
    (ht : P.underlying t = some (.slice e)) (hu : P.underlying u = some .string) (hinfo : (P.info? e).map (fun i => (i.zero, i.size, i.bytes)) = some (some (.int .u8 0), 1, 1))
    (v : Value) (n : Nat) (xs ys : List UInt8) (hs : a.eval s = v) (hx : a.eval x = .string ⟨ys.toArray⟩)
    (HO : W.ownsRow B e 1 v n (bys xs)) (hB : B ≤ W.heap.size) (hl : n + ys.length ≤ 140737488355328)
    (h : ∀ v1 w1, w1.ownsRow B e 1 v1 (n + ys.length) (bys (xs ++ ys)) → W.grownBy w1 v.ownBlock → wpList P ops Q rest (a.put o.dst v1) w1) :
    wpList P ops Q (o :: rest) a W := by
  obtain ⟨i0, hi, hzz⟩ := Option.map_eq_some_iff.1 hinfo
  simp only [Prod.mk.injEq] at hzz
  obtain ⟨hz0, hz1, hz2⟩ := hzz
  refine Lib.wpList_append_own_string W hgd s x t u ho B e i0 ht hu hi hz0 hz1 hz2 v n (bys xs) hs HO ⟨ys.toArray⟩ hx (by show n + ys.length ≤ maxLen; simp only [maxLen]; omega) hl hB ?_
  intro v1 w1 h1 h2 _
  refine h v1 w1 ?_ h2
  rw [bys_str, bys_append] at h1
  exact h1
/-- The same as a step of a region. -/
theorem step_str {K : Act → World → Prop} {E : Prop} {W : World} (B : Nat) (hw : Region.wanted o (yielded ops a.tmps) = true) (s x : Operand) (t u e : TypeId)
    (ho : o.op = .call { callee := .builtin .append, args := #[s, x], argTypes := #[t, u] })
    (ht : P.underlying t = some (.slice e)) (hu : P.underlying u = some .string) (hinfo : (P.info? e).map (fun i => (i.zero, i.size, i.bytes)) = some (some (.int .u8 0), 1, 1))
    (v : Value) (n : Nat) (xs ys : List UInt8) (hs : a.eval s = v) (hx : a.eval x = .string ⟨ys.toArray⟩)
    (HO : W.ownsRow B e 1 v n (bys xs)) (hB : B ≤ W.heap.size) (hl : n + ys.length ≤ 140737488355328)
    (h : ∀ v1 w1, w1.ownsRow B e 1 v1 (n + ys.length) (bys (xs ++ ys)) → W.grownBy w1 v.ownBlock → K (a.put o.dst v1) w1) :
    if Region.wanted o (yielded ops a.tmps) = true then Oper.wp P o a W K Q else E := by
  obtain ⟨i0, hi, hzz⟩ := Option.map_eq_some_iff.1 hinfo
  simp only [Prod.mk.injEq] at hzz
  obtain ⟨hz0, hz1, hz2⟩ := hzz
  obtain ⟨v', w', hr, h2, h3, h4⟩ := Lib.run_append_own_string (P := P) W B t u o.type e i0 ht hu hi hz0 hz1 hz2 v n (bys xs) HO ⟨ys.toArray⟩ (by show n + ys.length ≤ maxLen; simp only [maxLen]; omega) hl hB
  rw [if_pos hw]
  unfold Oper.wp execOp
  simp only [ho, resolve, invoke, builtin, Sem.run_bind, Sem.run_pure, Result.andThen_ok, List.map_toArray, List.map_cons, List.map_nil, hs, hx, hr]
  rw [bys_str, bys_append] at h2
  exact h v' w' h2 h3
end
theorem itoa_ne {n : Int} (h : 0 ≤ n) : Lib.itoa n ≠ [] := by
  obtain ⟨u, rfl⟩ := Int.eq_ofNat_of_zero_le h
  unfold Lib.itoa
  rw [if_neg (by omega)]
  unfold Lib.decDigits
  split <;> simp
/-- string(b) of bytes that are read. -/
theorem conv_str {w : World} {B n cap : Nat} {A : Option Addr} {l : List UInt8} (h : w.ownsRow B 5 1 (.slice A n cap) n (bys l)) (hn : n = l.length) (h0 : l ≠ []) : (convert 88 9 (.slice A n cap)).run Tryd.prog w = .ok (.string ⟨l.toArray⟩) w := by
  subst hn
  have hr := row_rd h
  obtain ⟨b, off, rfl, hc⟩ := hr.at_ (by simpa [bys] using h0)
  exact Lib.run_convert_whole (P := Tryd.prog) w 88 5 9 Tryd.underlying88 Tryd.underlying5 Tryd.underlying9 b off ⟨l.toArray⟩ (fun i hi => by
    have hi' : i < l.length := hi
    refine hc i _ ?_
    simp only [bys, List.getElem?_map, List.getElem?_eq_getElem hi', Option.map_some]
    rfl) cap
theorem textTo_ne {p : List Tm} (h : 0 < p.length) (hc : 0 ≤ (tmv p 0).c) : textTo p p.length ≠ [] := fun e => by
  have h1 : (textTo p 1).length ≤ (textTo p p.length).length := textTo_mono p h
  have h2 : termW p 0 ≠ [] := by
    unfold termW wordTo
    have := itoa_ne hc
    simp [this]
  rw [e, textTo_succ] at h1
  simp [textTo] at h1
  exact h2 h1
theorem textTo_le {p : List Tm} (hT : ∀ k, k < p.length → (tmv p k).e.length ≤ 80 ∧ 0 ≤ (tmv p k).c ∧ (tmv p k).c ≤ 65536 ∧ ∀ x ∈ (tmv p k).e, 0 ≤ x ∧ x ≤ 65535) : ∀ k, k ≤ p.length → (textTo p k).length ≤ 4100 * k
  | 0, _ => by simp [textTo]
  | k + 1, h => by
    have ih := textTo_le hT k (by omega)
    have hk := hT k (by omega)
    have h1 := wordTo_len (c := (tmv p k).c) ⟨hk.2.1, hk.2.2.1⟩ hk.2.2.2 (by omega) _ (Nat.le_refl _)
    rw [textTo_succ, List.length_append]
    have : (termW p k).length ≤ 4100 := by
      unfold termW
      rw [List.length_append]
      split <;> simp <;> omega
    omega
theorem expW_len {k : Nat} {x : Int} (hk : k ≤ 80) (hx : 0 ≤ x ∧ x ≤ 65535) : (expW k x).length ≤ 50 := by
  have i1 := itoa_short (n := (k : Int)) (by omega) (by omega)
  have i2 := itoa_short (n := x) (by omega) (by omega)
  unfold expW
  split <;> split <;> simp <;> omega
set_option maxRecDepth 100000 in
set_option maxHeartbeats 1000000 in
theorem rtext27_any (p : List Tm) (A : Option Addr) (c : Nat) (w : World) (hp : PowOk w) (hP : RP w A p) (hl : p.length ≤ 20000) (hT : ∀ k, k < p.length → (tmv p k).e.length ≤ 80 ∧ 0 ≤ (tmv p k).c ∧ (tmv p k).c ≤ 65536 ∧ ∀ x ∈ (tmv p k).e, 0 ≤ x ∧ x ≤ 65535) :
    Calls Tryd.prog 27 #[.slice A p.length c] w fun e w' => e = .returned (.string ⟨(if p.length = 0 then [48] else textTo p p.length).toArray⟩) ∧ Kept w w' := by
  by_cases h0 : p.length = 0
  · have d0 : ((p.length : Int) == 0) = true := by simp [h0]
    have d0' : (p.length == 0) = true := by simp [h0]
    rw [if_pos h0]
    clear h0 hT hP hp
    go_enter Tryd.func27, Tryd.ntmps27
    go_wp2_with fail
    go_ret
    exact ⟨rfl, kept_refl _⟩
  · have d0 : ((p.length : Int) == 0) = false := by have : (p.length : Int) ≠ 0 := by omega
                                                    simpa using this
    have d0' : (p.length == 0) = false := by simpa using h0
    rw [if_neg h0]
    have CI := Lib.hid fun (w' : World) (k : Kept w w') (n : Int) (h : 0 ≤ n ∧ n ≤ 65536) => itoa63 n (by omega) (by omega) w' (hp.kept k)
    have HLE := Lib.hid (textTo_le hT)
    have TL := Lib.hid hT
    have HP := Lib.hid hP
    obtain ⟨F, hF⟩ : ∃ F, F = textTo p p.length := ⟨_, rfl⟩
    rw [← hF]
    have HF := Lib.hid hF
    have hpl : 0 < p.length := by omega
    clear hT hP hp hF h0
    go_enter Tryd.func27, Tryd.ntmps27
    obtain ⟨s1, hs1⟩ : ∃ s1 : ByteArray, s1 = ⟨#[32, 43, 32]⟩ := ⟨_, rfl⟩
    obtain ⟨s2, hs2⟩ : ∃ s2 : ByteArray, s2 = ⟨#[42, 120]⟩ := ⟨_, rfl⟩
    rw [← hs1, ← hs2]
    have HS1 := Lib.hid hs1
    have HS2 := Lib.hid hs2
    clear hs1 hs2
    go_wp2_with fail
    go_loopg [3, 4, 5] p.length (fun G s3 s4 s5 wr => ∃ (k : Nat) (n3 : Nat) (v5 : Value), k ≤ p.length ∧ G = p.length - k ∧ s4 = .int .i64 k ∧ s5 = v5 ∧ Hid (n3 = (textTo p k).length) ∧ wr.ownsRow w.heap.size 5 1 s3 n3 (bys (textTo p k)) ∧ Kept w wr)
    case atStart => exact ⟨0, 0, _, by omega, rfl, rfl, rfl, Lib.hid (by simp [textTo]), World.ownsRow_nil _ _ _ _, kept_refl _⟩
    case round =>
      obtain ⟨k, n3, v5, hk, rfl, rfl, rfl, HN, hr, K1⟩ := hrel
      by_cases hlt : k < p.length
      · obtain ⟨ba, off, E, ce, rfl, h0, h1, hE, hlE⟩ := HP.out k hlt
        have H1 := Lib.hid h1
        have TK := Lib.hid (TL.out k hlt)
        obtain ⟨x, hx⟩ : ∃ x, x = (tmv p k).c := ⟨_, rfl⟩
        obtain ⟨el, hel⟩ : ∃ el, el = (tmv p k).e := ⟨_, rfl⟩
        obtain ⟨S0, hS0⟩ : ∃ S0, S0 = textTo p k := ⟨_, rfl⟩
        obtain ⟨sp, hsp⟩ : ∃ sp : List UInt8, sp = if k = 0 then [] else [32, 43, 32] := ⟨_, rfl⟩
        have HS := Lib.hid (show textTo p (k + 1) = S0 ++ (sp ++ wordTo x el el.length) by rw [textTo_succ, termW, ← hx, ← hel, ← hS0, ← hsp])
        have hSl : S0.length ≤ 82000000 := by rw [hS0]; have := HLE.out k hk; omega
        rw [← hx, ← hel] at TK
        rw [← hx] at h0
        rw [← hel] at h1 hE hlE H1
        rw [← hS0] at hr HN
        have hl80 : el.length ≤ 80 := TK.out.1
        have HE := Lib.hid hE
        have h0' := kept_cell K1 h0
        have hn3 : n3 ≤ 82000000 := by have := HN.out; omega
        have hsz := K1.size
        obtain ⟨dg, hdg⟩ : ∃ dg, dg = Lib.itoa x := ⟨_, rfl⟩
        have CX := Lib.hid fun w' (k' : Kept w w') => CI.out w' k' x ⟨TK.out.2.1, TK.out.2.2.1⟩
        rw [← hdg] at CX
        have hdl : dg.length ≤ 21 := by rw [hdg]; exact itoa_short TK.out.2.1 TK.out.2.2.1
        have HDG := Lib.hid hdg
        have HSP := Lib.hid hsp
        clear hx hel hS0 hE h1 hdg hsp
        go_upto_if 16 with fail
        go_cut [3] (fun s3 wx => ∃ (n4 : Nat), n4 = (S0 ++ sp).length ∧ wx.ownsRow w.heap.size 5 1 s3 n4 (bys (S0 ++ sp)) ∧ Kept w wx)
        case first =>
          by_cases k0 : k = 0
          · have d1 : decide ((0 : Int) < (k : Int)) = false := decide_eq_false (by omega)
            have d1' : decide (0 < k) = false := decide_eq_false (by omega)
            have HSE := Lib.hid (show sp = [] by rw [HSP.out, if_pos k0])
            have hk0 : ¬ 0 < k := by omega
            clear k0
            go_wp2_with fail
            go_meet
            exact ⟨n3, by rw [HSE.out, HN.out, List.append_nil], by rw [HSE.out, List.append_nil]; exact hr, K1⟩
          · have d1 : decide ((0 : Int) < (k : Int)) = true := decide_eq_true (by omega)
            have d1' : decide (0 < k) = true := decide_eq_true (by omega)
            have HSE := Lib.hid (show sp = [32, 43, 32] by rw [HSP.out, if_neg k0])
            have hk0 : 0 < k := by omega
            clear k0
            go_wp2_with (first | (at_builtin; go_loud (refine app_str w.heap.size rfl (.tmp 17) (.const (.string s1)) 88 9 5 rfl Tryd.underlying88 Tryd.underlying9 info5 u3 n3 S0 [32, 43, 32] rfl (congrArg Value.string HS1.out) hr hsz (by simp; omega) ?_); intro v4 w4 hr4 hg4; have K4 := kept_grown K1 hr (Nat.le_refl _) hg4))
            go_meet
            exact ⟨n3 + [32, 43, 32].length, by rw [HSE.out, HN.out]; simp, by rw [HSE.out]; exact hr4, K4⟩
        case rest =>
          clear hr h0' K1 hsz
          obtain ⟨n3', hn3', hr3, K3⟩ := hcut
          have HN3 := Lib.hid hn3'
          have n3le : n3' ≤ 82000003 := by
            have h7 : sp.length ≤ 3 := by rw [HSP.out]; split <;> simp
            rw [hn3', List.length_append]
            omega
          have h0' := kept_cell K3 h0
          clear hn3'
          go_wp2_with (first
            | (go_at_call 63; ((with_reducible refine (CX.out _ K3).mono ?_); rintro e w5 ⟨rfl, k5⟩; have hr5 := row_kept hr3 k5; have K5 := kept_trans K3 k5; have sz5 := K5.size))
            | (at_builtin; go_loud (refine app_str w.heap.size rfl (.tmp 19) (.tmp 25) 88 9 5 rfl Tryd.underlying88 Tryd.underlying9 info5 u3 n3' (S0 ++ sp) dg rfl rfl hr5 sz5 (by omega) ?_); intro v6 w6 hr6 hg6; have K4 := kept_grown K5 hr5 (Nat.le_refl _) hg6))
          obtain ⟨n4, hn4⟩ : ∃ n4, n4 = n3' + dg.length := ⟨_, rfl⟩
          have HN4 := Lib.hid (show n4 = (S0 ++ (sp ++ dg)).length by rw [hn4, HN3.out]; simp [Nat.add_assoc])
          rw [← hn4, List.append_assoc] at hr6
          have hr4 := hr6
          clear hr6 hr5 hr3 hn4 hg6 K5 K3 k5 sz5 h0'
          clear hn3
          go_loopg [3, 5] el.length (fun G s3 s5 wr => ∃ (j : Nat) (n5 : Nat), j ≤ el.length ∧ G = el.length - j ∧ s5 = .int .i64 j ∧ Hid (n5 = (S0 ++ (sp ++ wordTo x el j)).length) ∧ wr.ownsRow w.heap.size 5 1 s3 n5 (bys (S0 ++ (sp ++ wordTo x el j))) ∧ Kept w wr)
          case atStart => exact ⟨0, n4, by omega, rfl, rfl, Lib.hid (by rw [HN4.out, HDG.out]; simp [wordTo]), by (rw [show wordTo x el 0 = dg by rw [HDG.out]; simp [wordTo]]; exact hr4), K4⟩
          case round =>
            clear hr4 K4
            obtain ⟨j, n5, hj, rfl, rfl, HN5, hr5, K5⟩ := hrel
            have h1 := kept_cell K5 H1.out
            obtain ⟨F5, hF5⟩ : ∃ F5, F5 = S0 ++ (sp ++ wordTo x el j) := ⟨_, rfl⟩
            rw [← hF5] at HN5 hr5
            have HF5 := Lib.hid hF5
            have n5le : n5 ≤ 82010000 := by
              have h5 := HN5.out
              have h6 := wordTo_len ⟨TK.out.2.1, TK.out.2.2.1⟩ TK.out.2.2.2 (by omega) j hj
              have h7 : sp.length ≤ 3 := by rw [HSP.out]; split <;> simp
              rw [HF5.out, List.length_append, List.length_append] at h5
              omega
            have hsz5 := K5.size
            clear hF5
            by_cases hjt : j < el.length
            · obtain ⟨b1, o1, rfl, h2⟩ := HE.out.int hjt
              have X0 := Lib.hid (h2 j hjt)
              have x0 := kept_cell K5 (h2 j hjt)
              have bx := TK.out.2.2.2 (ia el j) (ia_mem hjt)
              obtain ⟨xi, hxi⟩ : ∃ xi, xi = ia el j := ⟨_, rfl⟩
              rw [← hxi] at x0 bx X0
              have HXI := Lib.hid hxi
              have HSU := Lib.hid (show S0 ++ (sp ++ wordTo x el (j + 1)) = F5 ++ expW j xi by rw [wordTo_succ, HF5.out, ← hxi]; simp [List.append_assoc])
              obtain ⟨dj, hdj⟩ : ∃ dj, dj = Lib.itoa (j : Int) := ⟨_, rfl⟩
              have CJ := Lib.hid fun w' (k' : Kept w w') => CI.out w' k' (j : Int) ⟨by omega, by omega⟩
              rw [← hdj] at CJ
              have djl : dj.length ≤ 21 := by rw [hdj]; exact itoa_short (by omega) (by omega)
              have HDJ := Lib.hid hdj
              clear h2 hxi hdj
              by_cases hx0 : 0 < xi
              · have d1 : decide (0 < xi) = true := decide_eq_true hx0
                by_cases hx1 : 1 < xi
                · have d2 : decide (1 < xi) = true := decide_eq_true hx1
                  obtain ⟨dx, hdx⟩ : ∃ dx, dx = Lib.itoa xi := ⟨_, rfl⟩
                  have CX2 := Lib.hid fun w' (k' : Kept w w') => CI.out w' k' xi ⟨by omega, by omega⟩
                  rw [← hdx] at CX2
                  have dxl : dx.length ≤ 21 := by rw [hdx]; exact itoa_short (by omega) (by omega)
                  have HEX := Lib.hid (show expW j xi = [42, 120] ++ dj ++ ([94] ++ dx) by unfold expW; rw [if_pos hx0, if_pos hx1, HDJ.out, hdx])
                  clear hdx
                  go_upto_region 16 with (first
                  | (at_builtin; refine app_str w.heap.size rfl (.tmp 46) (.const (.string s2)) 88 9 5 rfl Tryd.underlying88 Tryd.underlying9 info5 u3 n5 F5 [42, 120] rfl (congrArg Value.string HS2.out) hr5 hsz5 (by simp; omega) ?_; intro v6 w6 hr6 hg6; have K6 := kept_grown K5 hr5 (Nat.le_refl _) hg6)
                  | (go_at_call 63; ((with_reducible refine (CJ.out _ K6).mono ?_); rintro e w7 ⟨rfl, k7⟩; have hr7 := row_kept hr6 k7; have K7 := kept_trans K6 k7; have sz7 := K7.size))
                  | (at_builtin; refine app_str w.heap.size rfl (.tmp 47) (.tmp 49) 88 9 5 rfl Tryd.underlying88 Tryd.underlying9 info5 v6 (n5 + 2) (F5 ++ [42, 120]) dj rfl rfl hr7 sz7 (by omega) ?_; intro v8 w8 hr8 hg8; have K8 := kept_grown K7 hr7 (Nat.le_refl _) hg8; replace h1 := kept_cell K8 H1.out; replace x0 := kept_cell K8 X0.out))
                  obtain ⟨F8, hF8⟩ : ∃ F8, F8 = F5 ++ [42, 120] ++ dj := ⟨_, rfl⟩
                  obtain ⟨n8, hn8⟩ : ∃ n8, n8 = n5 + 2 + dj.length := ⟨_, rfl⟩
                  rw [← hF8, ← hn8] at hr8
                  have HF8 := Lib.hid hF8
                  have HN8 := Lib.hid hn8
                  have n8le : n8 ≤ 82020000 := by omega
                  have y1 := H1.out
                  have y2 := X0.out
                  clear hF8 hn8 h1 x0 hr5 hr6 hr7 hg6 hg8 K6 k7 K7 hsz5 sz7
                  refine region_x (fun w' => Kept w w') [] (by kernel_rfl) (kept_drew (K8)) (fun hHeld => ?_)
                  refine x_take (i := 0) (oi := { dst := some 60, op := Op.move (Operand.tmp 3), type := 88, pos := "ref.go:272", after := #[], guard := none }) (v := ?_) rfl (by kernel_rfl) (by kernel_rfl) (by kernel_rfl) (by kernel_rfl) (by kernel_rfl) (fun _ _ _ h => h) (Or.inl ⟨rfl, ?_⟩) (by assumption) ?_
                  rotate_left
                  · (intro w' hSw; replace y1 := kept_cell hSw y1; replace y2 := kept_cell hSw y2; go_simp; try with_reducible rfl)
                  try simp only [Act.put, List.setIfInBounds_toArray, List.set_cons_zero, List.set_cons_succ]
                  refine x_take (i := 3) (oi := { dst := some 63, op := Op.move (Operand.tmp 0), type := 25, pos := "ref.go:272", after := #[], guard := none }) (v := ?_) rfl (by kernel_rfl) (by kernel_rfl) (by kernel_rfl) (by kernel_rfl) (by kernel_rfl) (fun _ _ _ h => h) (Or.inl ⟨rfl, ?_⟩) (by assumption) ?_
                  rotate_left
                  · (intro w' hSw; replace y1 := kept_cell hSw y1; replace y2 := kept_cell hSw y2; go_simp; try with_reducible rfl)
                  try simp only [Act.put, List.setIfInBounds_toArray, List.set_cons_zero, List.set_cons_succ]
                  refine x_take (i := 4) (oi := { dst := some 64, op := Op.move (Operand.tmp 4), type := 3, pos := "ref.go:272", after := #[], guard := none }) (v := ?_) rfl (by kernel_rfl) (by kernel_rfl) (by kernel_rfl) (by kernel_rfl) (by kernel_rfl) (fun _ _ _ h => h) (Or.inl ⟨rfl, ?_⟩) (by assumption) ?_
                  rotate_left
                  · (intro w' hSw; replace y1 := kept_cell hSw y1; replace y2 := kept_cell hSw y2; go_simp; try with_reducible rfl)
                  try simp only [Act.put, List.setIfInBounds_toArray, List.set_cons_zero, List.set_cons_succ]
                  refine x_take (i := 5) (oi := { dst := some 65, op := Op.indexAddr 25 (Operand.tmp 63) (Operand.tmp 64), type := 0, pos := "ref.go:272", after := #[{ on := 3, ground := Ground.data }, { on := 4, ground := Ground.data }], guard := none }) (v := ?_) rfl (by kernel_rfl) (by kernel_rfl) (by kernel_rfl) (by kernel_rfl) (by kernel_rfl) (fun _ _ _ h => h) (Or.inl ⟨rfl, ?_⟩) (by assumption) ?_
                  rotate_left
                  · (intro w' hSw; replace y1 := kept_cell hSw y1; replace y2 := kept_cell hSw y2; go_simp; try with_reducible rfl)
                  try simp only [Act.put, List.setIfInBounds_toArray, List.set_cons_zero, List.set_cons_succ]
                  refine x_take (i := 6) (oi := { dst := some 66, op := Op.fieldAddr 67 (Operand.tmp 65) 1, type := 0, pos := "ref.go:272", after := #[{ on := 5, ground := Ground.data }], guard := none }) (v := ?_) rfl (by kernel_rfl) (by kernel_rfl) (by kernel_rfl) (by kernel_rfl) (by kernel_rfl) (fun _ _ _ h => h) (Or.inl ⟨rfl, ?_⟩) (by assumption) ?_
                  rotate_left
                  · (intro w' hSw; replace y1 := kept_cell hSw y1; replace y2 := kept_cell hSw y2; go_simp; try with_reducible rfl)
                  try simp only [Act.put, List.setIfInBounds_toArray, List.set_cons_zero, List.set_cons_succ]
                  refine x_take (i := 7) (oi := { dst := some 67, op := Op.load 56 (Operand.tmp 66), type := 56, pos := "ref.go:272", after := #[{ on := 6, ground := Ground.data }], guard := none }) (v := ?_) rfl (by kernel_rfl) (by kernel_rfl) (by kernel_rfl) (by kernel_rfl) (by kernel_rfl) (fun _ _ _ h => h) (Or.inl ⟨rfl, ?_⟩) (by assumption) ?_
                  rotate_left
                  · (intro w' hSw; replace y1 := kept_cell hSw y1; replace y2 := kept_cell hSw y2; go_simp; try with_reducible rfl)
                  try simp only [Act.put, List.setIfInBounds_toArray, List.set_cons_zero, List.set_cons_succ]
                  refine x_take (i := 8) (oi := { dst := some 68, op := Op.move (Operand.tmp 5), type := 3, pos := "ref.go:272", after := #[], guard := none }) (v := ?_) rfl (by kernel_rfl) (by kernel_rfl) (by kernel_rfl) (by kernel_rfl) (by kernel_rfl) (fun _ _ _ h => h) (Or.inl ⟨rfl, ?_⟩) (by assumption) ?_
                  rotate_left
                  · (intro w' hSw; replace y1 := kept_cell hSw y1; replace y2 := kept_cell hSw y2; go_simp; try with_reducible rfl)
                  try simp only [Act.put, List.setIfInBounds_toArray, List.set_cons_zero, List.set_cons_succ]
                  refine x_take (i := 9) (oi := { dst := some 69, op := Op.indexAddr 56 (Operand.tmp 67) (Operand.tmp 68), type := 0, pos := "ref.go:272", after := #[{ on := 7, ground := Ground.data }, { on := 8, ground := Ground.data }], guard := none }) (v := ?_) rfl (by kernel_rfl) (by kernel_rfl) (by kernel_rfl) (by kernel_rfl) (by kernel_rfl) (fun _ _ _ h => h) (Or.inl ⟨rfl, ?_⟩) (by assumption) ?_
                  rotate_left
                  · (intro w' hSw; replace y1 := kept_cell hSw y1; replace y2 := kept_cell hSw y2; go_simp; try with_reducible rfl)
                  try simp only [Act.put, List.setIfInBounds_toArray, List.set_cons_zero, List.set_cons_succ]
                  refine x_take (i := 10) (oi := { dst := some 70, op := Op.load 3 (Operand.tmp 69), type := 3, pos := "ref.go:272", after := #[{ on := 9, ground := Ground.data }], guard := none }) (v := ?_) rfl (by kernel_rfl) (by kernel_rfl) (by kernel_rfl) (by kernel_rfl) (by kernel_rfl) (fun _ _ _ h => h) (Or.inl ⟨rfl, ?_⟩) (by assumption) ?_
                  rotate_left
                  · (intro w' hSw; replace y1 := kept_cell hSw y1; replace y2 := kept_cell hSw y2; go_simp; try with_reducible rfl)
                  try simp only [Act.put, List.setIfInBounds_toArray, List.set_cons_zero, List.set_cons_succ]
                  refine x_one (i := 1) (o := { dst := some 61, op := Op.buildSlice 88 1 #[(0, Operand.const (Value.int IntKind.u8 94))], type := 88, pos := "ref.go:272", after := #[], guard := none }) (by kernel_rfl) rfl (fun K hK => ?_)
                  (go_simp)
                  refine hK.out _ _ ?_ (fun hHeld => ?_)
                  · (try dsimp only); repeat (first | assumption | exact kept_refl _ | refine kept_drew ?_ | refine kept_alloc ?_ _ | refine kept_set ?_ (by omega) _)
                  clear hK K
                  try simp only [Act.put, List.setIfInBounds_toArray, List.set_cons_zero, List.set_cons_succ]
                  refine x_one (i := 2) (o := { dst := some 62, op := Op.call { callee := Callee.builtin Builtin.append, args := #[Operand.tmp 60, Operand.tmp 61], argTypes := #[88, 88] }, type := 88, pos := "ref.go:272", after := #[{ on := 0, ground := Ground.data }, { on := 1, ground := Ground.data }], guard := none }) (by kernel_rfl) rfl (fun K hK => ?_)
                  (first | (refine step_own w.heap.size rfl (.tmp 60) (.tmp 61) 88 5 (.int .u8 0) 1 1 rfl Tryd.underlying88 info5 rfl (by omega) (by omega) v8 n8 1 1 ⟨w8.heap.size, 0, none⟩ (bys F8) (bys [94]) rfl rfl rfl (news_rd (Own.new w8.drew 5 (bys [94])).rd) (one_bys _) (row_kept hr8 (kept_alloc (kept_drew (kept_refl w8)) _)) hHeld.size (by omega) ?_; intro v9 w9 hr9 hg9 _; have G9 := kept_grown hHeld (row_kept hr8 (kept_alloc (kept_drew (kept_refl w8)) _)) (Nat.le_refl _) hg9; rw [bys_append] at hr9) | (refine step_own w.heap.size rfl (.tmp 60) (.tmp 61) 88 5 (.int .u8 0) 1 1 rfl Tryd.underlying88 info5 rfl (by omega) (by omega) v8 n8 1 1 ⟨w11.heap.size, 0, none⟩ (bys F8) (bys [94]) rfl rfl rfl (news_rd (Own.new w11 5 (bys [94])).rd) (one_bys _) (row_kept hr8 (kept_trans (kept_drew (kept_refl w8)) (kept_alloc k11 _))) hHeld.size (by omega) ?_; intro v9 w9 hr9 hg9 _; have G9 := kept_grown hHeld (row_kept hr8 (kept_trans (kept_drew (kept_refl w8)) (kept_alloc k11 _))) (Nat.le_refl _) hg9; rw [bys_append] at hr9) | (refine step_own w.heap.size rfl (.tmp 60) (.tmp 61) 88 5 (.int .u8 0) 1 1 rfl Tryd.underlying88 info5 rfl (by omega) (by omega) v8 n8 1 1 ⟨w8.heap.size, 0, none⟩ (bys F8) (bys [94]) rfl rfl rfl (news_rd ((Own.new w8.drew 5 (bys [94])).kept k11).rd) (one_bys _) (row_kept hr8 (kept_trans (kept_alloc (kept_drew (kept_refl w8)) _) k11)) hHeld.size (by omega) ?_; intro v9 w9 hr9 hg9 _; have G9 := kept_grown hHeld (row_kept hr8 (kept_trans (kept_alloc (kept_drew (kept_refl w8)) _) k11)) (Nat.le_refl _) hg9; rw [bys_append] at hr9))
                  refine hK.out _ _ ?_ (fun hHeld => ?_)
                  · (try dsimp only); repeat (first | assumption | exact kept_refl _ | refine kept_drew ?_ | refine kept_alloc ?_ _ | refine kept_set ?_ (by omega) _)
                  clear hK K
                  try simp only [Act.put, List.setIfInBounds_toArray, List.set_cons_zero, List.set_cons_succ]
                  refine x_one (i := 11) (o := { dst := some 71, op := Op.call { callee := Callee.value (Operand.func 63), args := #[Operand.tmp 70], argTypes := #[3] }, type := 9, pos := "ref.go:272", after := #[{ on := 10, ground := Ground.data }, { on := 2, ground := Ground.chain }], guard := none }) (by kernel_rfl) rfl (fun K hK => ?_)
                  (go_simp; go_at_call 63; (with_reducible refine (CX2.out _ hHeld).mono ?_); rintro e w11 ⟨rfl, k11⟩; have G11 : Kept w w11 := kept_trans hHeld k11; (try replace hr9 := row_kept hr9 k11); try dsimp only)
                  refine hK.out _ _ ?_ (fun hHeld => ?_)
                  · (try dsimp only); repeat (first | assumption | exact kept_refl _ | refine kept_drew ?_ | refine kept_alloc ?_ _ | refine kept_set ?_ (by omega) _)
                  clear hK K
                  try simp only [Act.put, List.setIfInBounds_toArray, List.set_cons_zero, List.set_cons_succ]
                  refine x_one (i := 12) (o := { dst := some 72, op := Op.call { callee := Callee.builtin Builtin.append, args := #[Operand.tmp 62, Operand.tmp 71], argTypes := #[88, 9] }, type := 88, pos := "ref.go:272", after := #[{ on := 2, ground := Ground.data }, { on := 11, ground := Ground.data }, { on := 11, ground := Ground.chain }], guard := none }) (by kernel_rfl) rfl (fun K hK => ?_)
                  (refine step_str w.heap.size rfl (.tmp 62) (.tmp 71) 88 9 5 rfl Tryd.underlying88 Tryd.underlying9 info5 v9 (n8 + 1) (F8 ++ [94]) dx rfl rfl hr9 hHeld.size (by omega) ?_; intro v10 w10 hr10 hg10; have G10 := kept_grown hHeld hr9 (Nat.le_refl _) hg10)
                  refine hK.out _ _ ?_ (fun hHeld => ?_)
                  · (try dsimp only); repeat (first | assumption | exact kept_refl _ | refine kept_drew ?_ | refine kept_alloc ?_ _ | refine kept_set ?_ (by omega) _)
                  clear hK K
                  try simp only [Act.put, List.setIfInBounds_toArray, List.set_cons_zero, List.set_cons_succ]
                  refine x_take (i := 13) (oi := { dst := some 3, op := Op.assign (Operand.tmp 72), type := 88, pos := "ref.go:272", after := #[{ on := 12, ground := Ground.data }, { on := 12, ground := Ground.chain }, { on := 0, ground := Ground.phase }, { on := 1, ground := Ground.phase }, { on := 2, ground := Ground.phase }, { on := 3, ground := Ground.phase }, { on := 4, ground := Ground.phase }, { on := 5, ground := Ground.phase }, { on := 6, ground := Ground.phase }, { on := 7, ground := Ground.phase }, { on := 8, ground := Ground.phase }, { on := 9, ground := Ground.phase }, { on := 10, ground := Ground.phase }, { on := 11, ground := Ground.phase }, { on := 12, ground := Ground.phase }], guard := none }) (v := ?_) rfl (by kernel_rfl) (by kernel_rfl) (by kernel_rfl) (by kernel_rfl) (by kernel_rfl) (fun _ _ _ h => h) (Or.inl ⟨rfl, ?_⟩) (by assumption) ?_
                  rotate_left
                  · (intro w' hSw; replace y1 := kept_cell hSw y1; replace y2 := kept_cell hSw y2; go_simp; try with_reducible rfl)
                  try simp only [Act.put, List.setIfInBounds_toArray, List.set_cons_zero, List.set_cons_succ]
                  refine x_done (by kernel_rfl) ?_ _
                  (clear y1 y2 hr9 hr8; go_wp2_with fail; go_roundg (el.length - (j + 1)); (case rel => exact ⟨j + 1, n8 + 1 + dx.length, by omega, rfl, by go_num, Lib.hid (by rw [HSU.out, HEX.out, HN8.out, HN5.out]; simp; omega), by (rw [HSU.out, HEX.out]; rw [HF8.out] at hr10; simpa [List.append_assoc] using hr10), G10⟩); (case measure => omega))
                · have d2 : decide (1 < xi) = false := decide_eq_false hx1
                  have HEX := Lib.hid (show expW j xi = [42, 120] ++ dj by unfold expW; rw [if_pos hx0, if_neg hx1, HDJ.out]; simp)
                  go_wp2_with (first
                  | (at_builtin; refine app_str w.heap.size rfl (.tmp 46) (.const (.string s2)) 88 9 5 rfl Tryd.underlying88 Tryd.underlying9 info5 u3 n5 F5 [42, 120] rfl (congrArg Value.string HS2.out) hr5 hsz5 (by simp; omega) ?_; intro v6 w6 hr6 hg6; have K6 := kept_grown K5 hr5 (Nat.le_refl _) hg6)
                  | (go_at_call 63; ((with_reducible refine (CJ.out _ K6).mono ?_); rintro e w7 ⟨rfl, k7⟩; have hr7 := row_kept hr6 k7; have K7 := kept_trans K6 k7; have sz7 := K7.size))
                  | (at_builtin; refine app_str w.heap.size rfl (.tmp 47) (.tmp 49) 88 9 5 rfl Tryd.underlying88 Tryd.underlying9 info5 v6 (n5 + 2) (F5 ++ [42, 120]) dj rfl rfl hr7 sz7 (by omega) ?_; intro v8 w8 hr8 hg8; have K8 := kept_grown K7 hr7 (Nat.le_refl _) hg8; replace h1 := kept_cell K8 H1.out; replace x0 := kept_cell K8 X0.out))
                  go_roundg (el.length - (j + 1))
                  case rel => exact ⟨j + 1, n5 + 2 + dj.length, by omega, rfl, by go_num, Lib.hid (by rw [HSU.out, HEX.out, HN5.out]; simp; omega), by (rw [HSU.out, HEX.out, ← List.append_assoc]; exact hr8), K8⟩
                  case measure => omega
              · have d1 : decide (0 < xi) = false := decide_eq_false hx0
                have d2 : decide (1 < xi) = false := decide_eq_false (by omega)
                have HEX := Lib.hid (show expW j xi = [] by unfold expW; rw [if_neg hx0, if_neg (by omega)]; rfl)
                go_wp2_with fail
                go_roundg (el.length - (j + 1))
                case rel => exact ⟨j + 1, n5, by omega, rfl, by go_num, Lib.hid (by rw [HSU.out, HEX.out, HN5.out]; simp), by (rw [HSU.out, HEX.out, List.append_nil]; exact hr5), K5⟩
                case measure => omega
            · obtain rfl : j = el.length := by omega
              go_wp2_with fail
              go_roundg (p.length - (k + 1))
              case rel => exact ⟨k + 1, n5, _, by omega, rfl, by go_num, rfl, Lib.hid (by rw [HS.out, HN5.out, HF5.out]), by (rw [HS.out, ← HF5.out]; exact hr5), K5⟩
              case measure => omega
      · obtain rfl : k = p.length := by omega
        rw [← HF.out] at hr HN
        obtain ⟨A3, c3, hv3⟩ := row_val hr
        rw [hv3] at hr ⊢
        have hcv := conv_str hr HN.out (by rw [HF.out]; exact textTo_ne (by omega) (TL.out 0 (by omega)).2.1)
        go_wp2_with fail
        go_ret
        exact ⟨rfl, K1⟩
end Go.Proofs.YtnjmpjdampdmmaaDoor

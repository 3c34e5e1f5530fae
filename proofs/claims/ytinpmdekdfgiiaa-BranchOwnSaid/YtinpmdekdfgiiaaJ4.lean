/- Joined: B20, B21, B22. -/
import Derived.Test.YtinpmdekdfgiiaaB19
import Derived.Test.YtinpmdekdfgiiaaLib4
import Derived.Deep.RegionLaw
import Derived.Laws.EntriesVeiled
/- The program's Least. -/
set_option linter.unusedVariables false
set_option linter.unusedSimpArgs false
namespace Go.Proofs.Ytinpmdekdfgiiaa
open Go.RowKit

def LeastPost (t : List Bool) (w : World) (e : Ending) (w' : World) : Prop :=
  Kept w w' ∧ ((inpB t.length = -1 ∧ e = .returned (.tuple #[.int .i64 0, .int .i64 2])) ∨ (∃ n : Nat, n ≤ 3 ∧ t.length = 2 ^ n ∧ inpB t.length = n ∧ e = .returned (.tuple #[.int .i64 (leastS n (bo (ba t) (2 ^ n)) : Nat), .int .i64 0])))

theorem shl48 (n : Nat) (hn : n ≤ 60) : wrap64 (2 ^ n) = ((2 ^ n : Nat) : Int) := by
  have h1 : 2 ^ n ≤ 2 ^ 60 := Nat.pow_le_pow_right (by omega) hn
  have h2 : ((2 : Int) ^ n) = ((2 ^ n : Nat) : Int) := by simp
  rw [h2]
  generalize 2 ^ n = m at *
  unfold wrap64
  omega

end Go.Proofs.Ytinpmdekdfgiiaa

/- The program's Least at tables of 1, 2, 4 or 8 values. -/
set_option linter.unusedVariables false
set_option linter.unusedSimpArgs false
namespace Go.Proofs.Ytinpmdekdfgiiaa
open Go.RowKit

theorem own_ne {w : World} {B e sz n b : Nat} {v : Value} {cs : List Value} (h : w.ownsRow B e sz v n cs) (hb : b < B) : some b ≠ v.ownBlock := by
  intro h1
  have := (h.lt b h1.symm).1
  omega

theorem row_set {w : World} {B e sz n b j : Nat} {v : Value} {cs : List Value} (h : w.ownsRow B e sz v n cs) (hb : b < B) (u : Value) : (w.setCell ⟨b, j, none⟩ u).ownsRow B e sz v n cs :=
  ownsRow_setCell_below h hb u
theorem row_list {w : World} {B e sz n : Nat} {v : Value} {cs cs' : List Value} (h : w.ownsRow B e sz v n cs) (he : cs = cs') : w.ownsRow B e sz v n cs' := he ▸ h

theorem andnot_vars {n : Nat} (h : n ≤ 3) : ∀ x ∈ varsN n, bits .andNot .i64 (allN' n : Int) (x : Int) = ((allN' n ^^^ x : Nat) : Int) := by
  intro x hx
  match n, h with
  | 0, _ => simp [varsN] at hx
  | 1, _ => simp [varsN] at hx; subst hx; decide +kernel
  | 2, _ => simp [varsN] at hx; rcases hx with rfl | rfl <;> decide +kernel
  | 3, _ => simp [varsN] at hx; rcases hx with rfl | rfl | rfl <;> decide +kernel
theorem want_le {n : Nat} (h : n ≤ 3) {x : Nat} (hx : x < 2 ^ 2 ^ n) : x ≤ allN' n := by
  match n, h with
  | 0, _ => simp [allN'] at hx ⊢; omega
  | 1, _ => simp [allN'] at hx ⊢; omega
  | 2, _ => simp [allN'] at hx ⊢; omega
  | 3, _ => simp [allN'] at hx ⊢; omega

set_option maxRecDepth 100000 in
set_option maxHeartbeats 1000000 in
theorem least_good (T : Option Addr) (c : Nat) (t : List Bool) (w : World) (n : Nat) (hn : n ≤ 3) (hlen : t.length = 2 ^ n) (hT : Rd w T (bools t)) :
    Calls Try.prog 23 #[.slice T t.length c] w (LeastPost t w) := by
  have hinp : inpB t.length = n := by
    match n, hn with
    | 0, _ => rw [hlen]; rfl
    | 1, _ => rw [hlen]; rfl
    | 2, _ => rw [hlen]; rfl
    | 3, _ => rw [hlen]; rfl
  have HI := Lib.hid hinp; clear hinp
  have ht8 : t.length ≤ 8 := by rw [hlen]; exact Nat.pow_le_pow_right (n := 2) (by omega) hn
  have HL := Lib.hid hlen; clear hlen
  have o0 := Own.new w 29 [.slice T t.length c]
  go_enter Try.func23, Try.ntmps23
  go_wp2_with fail
  go_loopg [4] 4 (fun g s4 wr => ∃ k : Nat, k ≤ n ∧ g = 4 - k ∧ s4 = .int .i64 k ∧ Kept w wr ∧ Own wr w.heap.size 29 [.slice T t.length c])
  case atStart => exact ⟨0, by omega, rfl, rfl, kept_alloc (kept_refl _) _, o0⟩
  case round =>
    clear o0
    obtain ⟨k, hk, rfl, rfl, k1, o0⟩ := hrel
    have q0 := o0.cell (j := 0) rfl
    have hsh := shl48 k (by omega)
    by_cases hlt : k < n
    · have h2 : 2 ^ k < t.length := by rw [HL.out]; exact Nat.pow_lt_pow_right (by omega) hlt
      obtain ⟨N, hN⟩ : ∃ N, N = 2 ^ k := ⟨_, rfl⟩
      rw [← hN] at hsh h2
      have HN := Lib.hid hN; clear hN
      have b1 : decide ((N : Int) < (t.length : Int)) = true := by simp; omega
      have b2 : decide (N < t.length) = true := by simp; omega
      go_wp2_with fail
      go_quiet (fail)
      go_wp2_with fail
      go_roundg (4 - (k + 1))
      case rel => exact ⟨k + 1, by omega, rfl, by go_num, below_drewN k1 _, o0.drewN _⟩
      case measure => omega
    · have : k = n := by omega
      subst this
      have h2 : t.length = 2 ^ k := HL.out
      obtain ⟨N, hN⟩ : ∃ N, N = 2 ^ k := ⟨_, rfl⟩
      rw [← hN] at hsh h2
      have HN := Lib.hid hN; clear hN
      have b1 : decide ((N : Int) < (t.length : Int)) = false := by simp; omega
      have b2 : decide (N < t.length) = false := by simp; omega
      have c1 : decide (3 < (k : Int)) = false := by simp; omega
      have c2 : decide (3 < k) = false := by simp; omega
      have c3 : (t.length != N) = false := by simp; omega
      have c4 : (t.length == N) = true := by simp; omega
      have H2 := Lib.hid h2; clear h2
      go_wp2_with fail
      go_quiet (fail)
      go_wp2_with fail
      go_quiet (fail)
      go_wp2_with fail
      have hT1 := hT.kept k1
      refine (bitsof_any _ w.heap.size t.length c T _ (ba t) (by omega) (asks61 (hT.kept (below_drewN k1 _)) rfl (by omega) q0) q0).mono ?_
      rintro e w1 ⟨rfl, rfl⟩
      obtain ⟨q, hq⟩ : ∃ q, wr.drewN _ = wr.drewN q := ⟨_, rfl⟩
      rw [hq]
      replace k1 := below_drewN k1 q
      replace o0 := o0.drewN q
      have q0 : (wr.drewN q).cell? ⟨w.heap.size, 0, none⟩ = some (.slice T t.length c) := o0.cell (j := 0) rfl
      generalize wr.drewN q = W0 at *
      have sz0 := o0.lt
      have ow := (Own.new W0 3 [.int .i64 (bo (ba t) t.length : Nat)]).alloc (.cells #[.slice none 0 0] 36)
      have ov : Own ((W0.alloc (.cells #[.int .i64 (bo (ba t) t.length : Nat)] 3)).alloc (.cells #[.slice none 0 0] 36)) (W0.heap.size + 1) 36 [.slice none 0 0] := by
        simpa using Own.new (W0.alloc (.cells #[.int .i64 (bo (ba t) t.length : Nat)] 3)) 36 [.slice none 0 0]
      have kk := kept_alloc (kept_alloc k1 (.cells #[.int .i64 (bo (ba t) t.length : Nat)] 3)) (.cells #[.slice none 0 0] 36)
      have oo := (o0.alloc (.cells #[.int .i64 (bo (ba t) t.length : Nat)] 3)).alloc (.cells #[.slice none 0 0] 36)
      go_wp2_with fail
      clear q0 hT1 o0
      go_loopg [33] k (fun g s33 wq => ∃ (v : Nat) (sv : Value), v ≤ k ∧ g = k - v ∧ s33 = .int .i64 v ∧ Kept w wq ∧ Own wq w.heap.size 29 [.slice T t.length c] ∧ Own wq W0.heap.size 3 [.int .i64 (bo (ba t) t.length : Nat)] ∧ Own wq (W0.heap.size + 1) 36 [sv] ∧ wq.ownsRow (W0.heap.size + 2) 3 1 sv v (nats ((List.range v).map fun v => bo (fun i => i.testBit v) t.length)))
      case atStart => exact ⟨0, _, by omega, rfl, rfl, kk, oo, ow, ov, World.ownsRow_nil _ _ _ _⟩
      case round =>
        clear kk oo ow ov
        obtain ⟨v, sv, hv, rfl, rfl, k2, o2, ow, ov, hrow⟩ := hrel
        by_cases hlt2 : v < k
        · obtain ⟨wo, rfl⟩ : ∃ x, x = wr := ⟨_, rfl⟩
          have k3 := kept_alloc k2 (.cells #[.int .i64 v] 3)
          have o3 := o2.alloc (.cells #[.int .i64 v] 3)
          have ow3 := ow.alloc (.cells #[.int .i64 v] 3)
          have ov3 := ov.alloc (.cells #[.int .i64 v] 3)
          have hrow3 := row_alloc hrow (.cells #[.int .i64 v] 3)
          have ok3 := Own.new wo 3 [.int .i64 v]
          have sz2 := ov.lt
          have h60 := bitsof_any (wo.alloc (.cells #[.int .i64 v] 3)).drew w.heap.size t.length c T _ _ (by omega) (asks62 (g := wo.heap.size) (k := v) (n := t.length) (by omega) (by omega) (Own.cell (Own.drew ok3) (j := 0) rfl)) (Own.cell (Own.drew o3) (j := 0) rfl)
          obtain ⟨x, hx⟩ : ∃ x, x = bo (fun i => i.testBit v) t.length := ⟨_, rfl⟩
          rw [← hx] at h60
          have HX := Lib.hid hx; clear hx
          have H60 := Lib.hid h60; clear h60
          have hrow4 := (row_alloc hrow3 (.cells (nats [x]).toArray 3)).drew
          have hN4 : ∀ j u, (nats [x])[j]? = some u → ((wo.alloc (.cells #[.int .i64 v] 3)).alloc (.cells (nats [x]).toArray 3)).drew.cell? ((⟨wo.heap.size + 1, 0, none⟩ : Addr).add j) = some u := by
            have := news_rd (Own.rd (Own.new (wo.alloc (.cells #[.int .i64 v] 3)) 3 (nats [x])))
            simpa using this
          have hB4 : W0.heap.size + 2 ≤ ((wo.alloc (.cells #[.int .i64 v] 3)).alloc (.cells (nats [x]).toArray 3)).drew.heap.size := by simp; omega
          have hl4 : (v + 1) * 8 ≤ 140737488355328 := by omega
          have c0 := ov3.cell (j := 0) rfl
          have c1 := cell_alloc c0 (.cells #[.int .i64 (x : Int)] 3)
          have kA : Kept (wo.alloc (.cells #[.int .i64 v] 3)) ((wo.alloc (.cells #[.int .i64 v] 3)).alloc (.cells (nats [x]).toArray 3)).drew := kept_drew (kept_alloc (kept_refl _) _)
          have ov4 := ov3.kept kA
          have ow4 := ow3.kept kA
          have o4 := o3.kept kA
          have k4 := kept_trans k3 kA
          go_wp2_with fail
          go_region_law (first
            | (go_simp; go_at_call 60; refine H60.out.mono ?_; rintro e w5 ⟨rfl, rfl⟩; try dsimp only)
            | (refine step_own (W0.heap.size + 2) rfl (.tmp 36) (.tmp 40) 36 3 (.int .i64 0) 1 8 rfl Try.underlying36 info3 rfl Nat.one_pos (by decide) sv v 1 1 ⟨wo.heap.size + 1, 0, none⟩ _ (nats [x]) rfl rfl rfl hN4 (one_nats _) hrow4 hB4 hl4 ?_; intro v9 w9 hr9 hg9 hat9; have ov9 := ov4.grown hg9 (own_ne hrow4 (by omega)); have c9 := ov9.cell (j := 0) rfl; have f9 := ov9.frozen 0; obtain ⟨A9, m9, rfl, hr10⟩ := row_form hr9)
            | fail)
          all_goals
            have k9 := kept_grown k4 hrow4 (by omega) hg9
            have ow9 := ow4.grown hg9 (own_ne hrow4 (by omega))
            have o9 := o4.grown hg9 (own_ne hrow4 (by omega))
            go_wp2_with fail
            go_roundg (k - (v + 1))
            case rel => exact ⟨v + 1, _, by omega, rfl, by go_num, kept_set k9 (by omega) _, o9.other (by dsimp only; omega) _, ow9.other (by dsimp only; omega) _, by simpa using ov9.set 0 (.slice A9 (v + 1) m9), row_set (row_list hr10 (by rw [HX.out]; simp [List.range_succ, nats])) (Nat.lt_succ_self _) _⟩
            case measure => omega
        · have : v = k := by omega
          subst this
          obtain ⟨wo, rfl⟩ : ∃ x, x = wr := ⟨_, rfl⟩
          obtain ⟨A3, c3, rfl, hrow2⟩ := row_form hrow
          clear hrow
          have hl : v ≤ 3 := hn
          have hcols : (List.range v).map (fun v => bo (fun i => i.testBit v) t.length) = varsN v := by
            rw [← cols_eq v (by omega), cols, HL.out]
          have hall : bo (fun _ => true) t.length = allN' v := by rw [HL.out]; exact bo_all v (by omega)
          rw [hcols] at hrow2
          have HALL := Lib.hid hall; clear hall hcols
          have c29 := o2.cell (j := 0) rfl
          go_wp2_with fail
          refine (bitsof_any _ w.heap.size t.length c T _ (fun _ => true) (by omega) (asks63 _ _) c29).mono ?_
          rintro e w1 ⟨rfl, rfl⟩
          rw [HALL.out]
          clear c29
          have F0 := Own.new wo 3 (nats [0, allN' v])
          have F1 := F0.alloc (.cells #[.func (.func 64) #[] #[.pointer (some ⟨W0.heap.size, 0, none⟩), .pointer (some ⟨W0.heap.size + 1, 0, none⟩), .pointer (some ⟨wo.heap.size + 1, 0, none⟩)]] 82)
          have F2 : Own ((wo.alloc (.cells (nats [0, allN' v]).toArray 3)).alloc (.cells #[.func (.func 64) #[] #[.pointer (some ⟨W0.heap.size, 0, none⟩), .pointer (some ⟨W0.heap.size + 1, 0, none⟩), .pointer (some ⟨wo.heap.size + 1, 0, none⟩)]] 82)) (wo.heap.size + 1) 82 [.func (.func 64) #[] #[.pointer (some ⟨W0.heap.size, 0, none⟩), .pointer (some ⟨W0.heap.size + 1, 0, none⟩), .pointer (some ⟨wo.heap.size + 1, 0, none⟩)]] := by
            simpa using Own.new (wo.alloc (.cells (nats [0, allN' v]).toArray 3)) 82 [.func (.func 64) #[] #[.pointer (some ⟨W0.heap.size, 0, none⟩), .pointer (some ⟨W0.heap.size + 1, 0, none⟩), .pointer (some ⟨wo.heap.size + 1, 0, none⟩)]]
          have KB := kept_alloc (kept_alloc (kept_refl wo) (.cells (nats [0, allN' v]).toArray 3)) (.cells #[.func (.func 64) #[] #[.pointer (some ⟨W0.heap.size, 0, none⟩), .pointer (some ⟨W0.heap.size + 1, 0, none⟩), .pointer (some ⟨wo.heap.size + 1, 0, none⟩)]] 82)
          have FE : FEnv ((wo.alloc (.cells (nats [0, allN' v]).toArray 3)).alloc (.cells #[.func (.func 64) #[] #[.pointer (some ⟨W0.heap.size, 0, none⟩), .pointer (some ⟨W0.heap.size + 1, 0, none⟩), .pointer (some ⟨wo.heap.size + 1, 0, none⟩)]] 82)) W0.heap.size (W0.heap.size + 1) (wo.heap.size + 1) (bo (ba t) t.length) A3 c3 (varsN v) :=
            ⟨(ow.kept KB).cell (j := 0) rfl, by rw [vars_length hl]; exact (ov.kept KB).cell (j := 0) rfl, F2.cell (j := 0) rfl, (row_rd hrow2).kept KB⟩
          have FR := F1.rd
          have KW := kept_trans k2 KB
          have hwant : bo (ba t) t.length ≤ allN' v := want_le hl (by have := bo_lt (ba t) t.length; rwa [HL.out] at this ⊢)
          go_wp2_with fail
          obtain ⟨WB, hWB⟩ : ∃ WB, WB = ((wo.alloc (.cells (nats [0, allN' v]).toArray 3)).alloc (.cells #[.func (.func 64) #[] #[.pointer (some ⟨W0.heap.size, 0, none⟩), .pointer (some ⟨W0.heap.size + 1, 0, none⟩), .pointer (some ⟨wo.heap.size + 1, 0, none⟩)]] 82)) := ⟨_, rfl⟩
          rw [← hWB] at FE FR KW
          have KWB : Kept WB ((wo.alloc (.cells (nats [0, allN' v]).toArray 3)).alloc (.cells #[.func (.func 64) #[] #[.pointer (some ⟨W0.heap.size, 0, none⟩), .pointer (some ⟨W0.heap.size + 1, 0, none⟩), .pointer (some ⟨wo.heap.size + 1, 0, none⟩)]] 82)) := by rw [hWB]; exact kept_refl _
          clear hWB F0 F1 F2 KB
          obtain ⟨p, hp⟩ : ∃ p : Nat → Bool, p = fun k => foundS (varsN v) (allN' v) (bo (ba t) t.length) k [0, allN' v] := ⟨_, rfl⟩
          have h5 : p 5 = true := by rw [hp]; exact found5 v hl _ hwant
          have HP := Lib.hid hp; clear hp
          have H5 := Lib.hid h5; clear h5
          go_loopg [11] 5 (fun g s11 wq => ∃ j : Nat, j ≤ 5 ∧ (∀ i, i < j → p i = false) ∧ g = 5 - j ∧ s11 = .int .i64 j ∧ Kept WB wq)
          case atStart => exact ⟨0, by omega, by omega, rfl, rfl, KWB⟩
          case round =>
            clear KWB
            obtain ⟨j, hj5, hj, rfl, rfl, k8⟩ := hrel
            have HJ := Lib.hid hj; clear hj
            have FE1 := FE.kept k8
            have FR1 := FR.kept k8
            have f3 := FE1.e3
            have hfo := found_any (varsN v) (allN' v) (bo (ba t) t.length) W0.heap.size (W0.heap.size + 1) (wo.heap.size + 1) A3 c3 vars_lt (andnot_vars hl) all_lt (by rw [vars_length hl]; omega) j j [0, allN' v] (some ⟨wo.heap.size, 0, none⟩) 2 2 wr rfl (by omega) (by intro x hx; simp at hx; rcases hx with rfl | rfl; omega; exact all_lt) (by simp; omega) rfl (by omega) (by omega) rfl FR1 FE1
            have HFO := Lib.hid hfo; clear hfo
            have hpj : foundS (varsN v) (allN' v) (bo (ba t) t.length) j [0, allN' v] = p j := by rw [HP.out]
            have HPJ := Lib.hid hpj; clear hpj
            go_wp2_with fail
            refine HFO.out.mono ?_
            rintro e w9 ⟨rfl, k9⟩
            rw [HPJ.out]
            cases hpv : p j
            · have H2 := Lib.hid hpv; clear hpv
              have hj4 : j < 5 := by
                rcases Nat.lt_or_ge j 5 with h | h
                · exact h
                · have e5 : j = 5 := by omega
                  have := H2.out
                  rw [e5, H5.out] at this
                  exact absurd this (by simp)
              go_wp2_with fail
              go_roundg (5 - (j + 1))
              case rel => exact ⟨j + 1, by omega, fun i h => by rcases Nat.lt_succ_iff_lt_or_eq.1 h with h | rfl; exact HJ.out i h; exact H2.out, rfl, by go_num, kept_trans k8 k9⟩
              case measure => omega
            · have H2 := Lib.hid hpv; clear hpv
              go_wp2_with fail
              go_ret2
              refine ⟨kept_trans KW (kept_trans k8 k9), .inr ⟨v, hl, HL.out, HI.out, ?_⟩⟩
              rw [← HL.out, leastS, ← HP.out]
              rcases Nat.lt_or_ge j 5 with h | h
              · rw [firstK_at 5 0 (fun i _ hi => HJ.out i hi) (by omega) (by omega) H2.out]; rfl
              · have e5 : j = 5 := by omega
                subst e5
                rw [firstK_none 5 0 (fun i _ hi => HJ.out i (by omega))]; rfl
end Go.Proofs.Ytinpmdekdfgiiaa

/- alive: the program computes the first example of the chapter. -/
set_option linter.unusedVariables false
set_option linter.unusedSimpArgs false
namespace Go.Proofs.Ytinpmdekdfgiiaa
open Go.RowKit

def exN : List Nd := [⟨0, 1, 2⟩, ⟨1, -1, -2⟩, ⟨1, -2, -1⟩]
theorem ex_valid : validB ((2 : Nat) : Int) 0 exN = true := by decide +kernel
theorem ex_tab : tabB 2 0 exN = [false, true, true, false] := by decide +kernel
theorem ex_least : leastS 2 (bo (ba [false, true, true, false]) (2 ^ 2)) = 3 := by decide +kernel
theorem ex_len : lenB 0 exN = 2 := by decide +kernel
theorem ex_wid : widB 0 exN = 2 := by decide +kernel
theorem ex_lay : layB 0 exN = true := by decide +kernel

def exT : List Bool := [false, true, true, false]
def ExTab (W : World) (e : Ending) (w' : World) : Prop := ∃ g, e = .returned (.tuple #[.slice (some ⟨g, 0, none⟩) 4 4, .int .i64 0]) ∧ W.heap.size ≤ g ∧ Own w' g 4 (bools exT) ∧ Kept W w'
theorem ex_table (A : Option Addr) (W : World) (hr : RN W A exN) : Calls Try.prog 27 #[.agg #[.int .i64 2, .int .i64 0, .slice A 3 3]] W (ExTab W) := by
  refine (table_good 2 0 A 3 exN W hr ex_valid (by omega)).mono ?_
  rintro e w' ⟨k, h⟩
  have hv : validB 2 0 exN = true := ex_valid
  rcases h with ⟨h, _⟩ | ⟨_, h, _⟩ | ⟨_, _, g, h1, h2, h3⟩
  · rw [show ((2 : Nat) : Int) = 2 from rfl, hv] at h; exact absurd h (by simp)
  · exact absurd h (by simp)
  · refine ⟨g, h1, h2, ?_, k⟩
    rw [show (((2 : Nat) : Int)).toNat = 2 from rfl, ex_tab] at h3
    exact h3
def ExLeast (W : World) (e : Ending) (w' : World) : Prop := e = .returned (.tuple #[.int .i64 3, .int .i64 0]) ∧ Kept W w'
theorem ex_leastc (T : Option Addr) (W : World) (hT : Rd W T (bools exT)) : Calls Try.prog 23 #[.slice T 4 4] W (ExLeast W) := by
  refine (least_good T 4 exT W 2 (by omega) rfl hT).mono ?_
  rintro e w' ⟨k, h⟩
  rcases h with ⟨h, _⟩ | ⟨n, h0, h1, _, h3⟩
  · exact absurd h (by decide)
  · have hn : n = 2 := by
      match n, h0 with
      | 0, _ => simp [exT] at h1
      | 1, _ => simp [exT] at h1
      | 2, _ => rfl
      | 3, _ => simp [exT] at h1
    subst hn
    refine ⟨?_, k⟩
    rw [h3, show leastS 2 (bo (ba exT) (2 ^ 2)) = 3 from ex_least]
    rfl
theorem ex_length (A : Option Addr) (W : World) (hr : RN W A exN) : Calls Try.prog 17 #[.agg #[.int .i64 2, .int .i64 0, .slice A 3 3]] W fun e w' => e = .returned (.int .i64 2) ∧ Kept W w' := by
  refine (length_any 2 0 A 3 exN W (by decide) hr).mono ?_
  rintro e w' ⟨h, k⟩
  rw [if_pos (show validB 2 0 exN = true from ex_valid), ex_len] at h
  exact ⟨h, k⟩
theorem ex_width (A : Option Addr) (W : World) (hr : RN W A exN) : Calls Try.prog 18 #[.agg #[.int .i64 2, .int .i64 0, .slice A 3 3]] W fun e w' => e = .returned (.int .i64 2) ∧ Kept W w' := by
  refine (width_any 2 0 A 3 exN W (by decide) hr).mono ?_
  rintro e w' ⟨h, k⟩
  rw [if_pos (show validB 2 0 exN = true from ex_valid), ex_wid] at h
  exact ⟨h, k⟩
theorem ex_layered (A : Option Addr) (W : World) (hr : RN W A exN) : Calls Try.prog 19 #[.agg #[.int .i64 2, .int .i64 0, .slice A 3 3]] W fun e w' => e = .returned (.bool true) ∧ Kept W w' := by
  refine (layered_any 2 0 A 3 exN W (by decide) hr).mono ?_
  rintro e w' ⟨h, k⟩
  rw [show validB 2 0 exN = true from ex_valid, ex_lay] at h
  exact ⟨h, k⟩

set_option maxRecDepth 100000 in
set_option maxHeartbeats 1000000 in
theorem alive_any (w : World) : Calls Try.prog 14 #[] w fun e w' => e = .returned (.bool true) ∧ Kept w w' := by
  have n0 := Own.new w 48 (ndCells exN)
  have hr := n0.rd
  have hb : Own ((w.alloc (.cells (ndCells exN).toArray 48)).alloc (.cells #[.int .i64 2, .int .i64 0, .slice (some ⟨w.heap.size, 0, none⟩) 3 3] 24)) (w.heap.size + 1) 24 [.int .i64 2, .int .i64 0, .slice (some ⟨w.heap.size, 0, none⟩) 3 3] := by
    simpa using Own.new (w.alloc (.cells (ndCells exN).toArray 48)) 24 [.int .i64 2, .int .i64 0, .slice (some ⟨w.heap.size, 0, none⟩) 3 3]
  have k0 : Kept w ((w.alloc (.cells (ndCells exN).toArray 48)).alloc (.cells #[.int .i64 2, .int .i64 0, .slice (some ⟨w.heap.size, 0, none⟩) 3 3] 24)) := kept_alloc (kept_alloc (kept_refl _) _) _
  replace hr := hr.kept (kept_alloc (kept_refl _) (.cells #[.int .i64 2, .int .i64 0, .slice (some ⟨w.heap.size, 0, none⟩) 3 3] 24))
  go_enter Try.func14, Try.ntmps14
  go_wp2_with fail
  refine (ex_table _ _ hr).mono ?_
  rintro e w1 ⟨g, rfl, hg, ho, k1⟩
  replace hr := hr.kept k1
  replace hb := hb.kept k1
  replace k0 := kept_trans k0 k1
  clear n0 k1
  have t4 := Own.new w1 4 (bools exT)
  go_wp2_with fail
  refine (ex_leastc _ _ t4.rd).mono ?_
  rintro e w2 ⟨rfl, k2⟩
  have k1 := kept_trans (kept_alloc (kept_refl w1) (.cells (bools exT).toArray 4)) k2
  replace hr := hr.kept k1
  replace hb := hb.kept k1
  replace ho := ho.kept k1
  replace k0 := kept_trans k0 k1
  clear k1 k2 t4
  have b0 := hb.cell (j := 0) rfl
  have b1 := hb.cell (j := 1) rfl
  have b2 := hb.cell (j := 2) rfl
  go_wp2_with fail
  refine (ex_length _ _ hr).mono ?_
  rintro e w3 ⟨rfl, k1⟩
  replace hr := hr.kept k1
  replace hb := hb.kept k1
  replace ho := ho.kept k1
  replace k0 := kept_trans k0 k1
  clear k1 b0 b1 b2
  have b0 := hb.cell (j := 0) rfl
  have b1 := hb.cell (j := 1) rfl
  have b2 := hb.cell (j := 2) rfl
  go_wp2_with fail
  refine (ex_width _ _ hr).mono ?_
  rintro e w4 ⟨rfl, k1⟩
  replace hr := hr.kept k1
  replace hb := hb.kept k1
  replace ho := ho.kept k1
  replace k0 := kept_trans k0 k1
  clear k1 b0 b1 b2
  have b0 := hb.cell (j := 0) rfl
  have b1 := hb.cell (j := 1) rfl
  have b2 := hb.cell (j := 2) rfl
  go_wp2_with fail
  refine (ex_layered _ _ hr).mono ?_
  rintro e w5 ⟨rfl, k1⟩
  replace ho := ho.kept k1
  replace k0 := kept_trans k0 k1
  clear k1 b0 b1 b2 hr hb
  have t4 := Own.new w5 4 (bools exT)
  have ho5 := (ho.alloc (.cells (bools exT).toArray 4)).rd
  go_wp2_with fail
  refine (samebools_any _ _ 4 4 4 4 exT exT _ ho5 t4.rd rfl rfl (by omega)).mono ?_
  rintro e w6 ⟨rfl, k1⟩
  replace k0 := kept_trans (kept_alloc k0 (.cells (bools exT).toArray 4)) k1
  go_wp2_with fail
  go_ret
  exact ⟨ret_bool (by simp), k0⟩
end Go.Proofs.Ytinpmdekdfgiiaa

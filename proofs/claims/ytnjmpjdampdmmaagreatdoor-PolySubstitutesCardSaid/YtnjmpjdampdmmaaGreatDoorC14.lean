/- Polynomials: (*strings.Builder).WriteString, laid; texts of terms: word, Text. -/
import Derived.Test.YtnjmpjdampdmmaaGreatDoorC13
import Derived.Shelf.Strings.BuilderK
import Derived.Shelf.Strings.BuilderF
import Derived.Lib.SmallJoins
import Derived.Lib.ItoaLen
import Derived.Laws.Concat
set_option linter.unusedVariables false
set_option linter.unusedSimpArgs false
namespace Go.Proofs.YtnjmpjdampdmmaaGreatDoor
open Go.RowKit Go.Maps Go.Shelf

def ws_ren : Go.Shelf.Ren := ⟨fun | 166 => 56 | 240 => 78 | 276 => 87 | n => n, fun | 70 => 86 | 9 => 9 | 0 => 0 | 72 => 89 | 37 => 87 | 75 => 91 | 80 => 96 | 164 => 129 | 20 => 20 | 3 => 3 | 4 => 4 | 5 => 5 | n => n, fun | n => n⟩
theorem ws_lays : Go.Proofs.Lays.n166 Tryz.prog ws_ren := {
  mixed := by kernel_rfl
  f166 := Tryz.func56.trans (congrArg some (by kernel_rfl))
  f240 := Tryz.func78.trans (congrArg some (by kernel_rfl))
  f276 := Tryz.func87.trans (congrArg some (by kernel_rfl))
  t0 := Tryz.underlying0
  a0 := Tryz.isAgg0
  z0 := Tryz.sizeOf0
  v0 := Tryz.zeroValue0
  t3 := Tryz.underlying3
  a3 := Tryz.isAgg3
  z3 := Tryz.sizeOf3
  v3 := Tryz.zeroValue3
  t4 := Tryz.underlying4
  a4 := Tryz.isAgg4
  z4 := Tryz.sizeOf4
  v4 := Tryz.zeroValue4
  t9 := Tryz.underlying9
  a9 := Tryz.isAgg9
  z9 := Tryz.sizeOf9
  v9 := Tryz.zeroValue9
  t20 := Tryz.underlying20
  a20 := Tryz.isAgg20
  z20 := Tryz.sizeOf20
  v20 := Tryz.zeroValue20
  t37 := Tryz.underlying87
  a37 := Tryz.isAgg87
  z37 := Tryz.sizeOf87
  v37 := Tryz.zeroValue87
  t70 := Tryz.underlying86
  a70 := Tryz.isAgg86
  z70 := Tryz.sizeOf86
  v70 := Tryz.zeroValue86
  t72 := Tryz.underlying89
  a72 := Tryz.isAgg89
  z72 := Tryz.sizeOf89
  v72 := Tryz.zeroValue89
  t75 := Tryz.underlying91
  a75 := Tryz.isAgg91
  z75 := Tryz.sizeOf91
  v75 := Tryz.zeroValue91
  t164 := Tryz.underlying129
  a164 := Tryz.isAgg129
  z164 := Tryz.sizeOf129
  v164 := Tryz.zeroValue129 }
theorem ws_extra : Builder.Extra Tryz.prog ws_ren := {
  sizeBuilder := by kernel_rfl
  liesBuilder := by kernel_rfl
  t5 := Tryz.underlying5
  a5 := Tryz.isAgg5
  z5 := Tryz.sizeOf5
  v5 := Tryz.zeroValue5
  infoByte := by kernel_rfl
  cellsByte := by kernel_rfl
  sizeByte := by kernel_rfl
  neB5 := by decide }
theorem writeString55 (B b : Nat) (l : List UInt8) (s : List UInt8) (w : World) (h : Lib.IsBuilderF 89 5 B b (Lib.byteCells l) w) (hlen : l.length + s.length ≤ 140737488355328) (hBw : B ≤ w.heap.size) :
    Calls Tryz.prog 56 #[.pointer (some ⟨b, 0, none⟩), .string ⟨s.toArray⟩] w fun e w' => e = .returned (.tuple #[.int .i64 s.length, .nilIface]) ∧ Lib.IsBuilderF 89 5 B b (Lib.byteCells (l ++ s)) w' ∧ Below B w w' ∧ Lib.OthersKept 5 (some b) w w' := by
  refine (Any.Builder_WriteString_k ws_lays ws_extra B b (Lib.byteCells l) ⟨s.toArray⟩ w h (by rw [Lib.byteCells_length]; exact hlen) hBw).mono ?_
  rintro e w' ⟨rfl, h1, h2, h3⟩
  refine ⟨rfl, .inr ?_, h2, h3⟩
  rw [show Lib.byteCells (l ++ s) = Lib.byteCells l ++ Lib.byteCells s by simp [Lib.byteCells]]
  exact h1

/-! ### Numerals -/
theorem gPow : Tryz.prog.globalNamed "internal/strconv.uint64pow10" = some 0 := by kernel_rfl
def PowOk (w : World) : Prop := Lib.TabIs Tryz.prog w "internal/strconv.uint64pow10" .u64 Lib.pow10Tab
theorem PowOk.kept {w w' : World} (h : PowOk w) (k : Kept w w') : PowOk w' := Joins.tab_stays gPow h k (Nat.le_refl _)
theorem kept_grow (w : World) (k : Nat) (os : Array Obj) : Kept w (Sort.grow (w.drewN k) os) :=
  (kept_refl w).grown (row := none) ⟨rfl, rfl, rfl, by simp [Sort.grow], fun i hi _ => by simp [Sort.grow, Array.getElem?_append, hi]⟩ (Nat.le_refl _) (fun k e => by cases e)
theorem ia_mem {l : List Int} {k : Nat} (h : k < l.length) : ia l k ∈ l := by
  unfold ia
  rw [List.getD_eq_getElem?_getD, List.getElem?_eq_getElem h]
  exact List.getElem_mem h
theorem itoa63 (n : Int) (h0 : -9223372036854775808 ≤ n) (h1 : n ≤ 9223372036854775807) (w : World) (hp : PowOk w) :
    Calls Tryz.prog 79 #[.int .i64 n] w fun e w' => e = .returned (.string ⟨(Lib.itoa n).toArray⟩) ∧ Kept w w' := by
  refine (Tryz.strconv_Itoa n h0 h1 w hp).mono ?_
  rintro e w' ⟨rfl, k, os, rfl⟩
  exact ⟨rfl, kept_grow w k os⟩

/-! ### The text of a term -/
def expW (i : Nat) (e : Int) : List UInt8 := (if 0 < e then [42, 120] ++ Lib.itoa i else []) ++ (if 1 < e then [94] ++ Lib.itoa e else [])
def wordTo (c : Int) (el : List Int) (k : Nat) : List UInt8 := Lib.itoa c ++ (List.range k).flatMap fun i => expW i (ia el i)
theorem wordTo_succ (c : Int) (el : List Int) (k : Nat) : wordTo c el (k + 1) = wordTo c el k ++ expW k (ia el k) := by
  unfold wordTo
  rw [List.range_succ, List.flatMap_append, List.append_assoc]
  simp
theorem ba_app (a b : List UInt8) : (⟨a.toArray⟩ : ByteArray) ++ ⟨b.toArray⟩ = ⟨(a ++ b).toArray⟩ := by
  apply ByteArray.ext
  simp
theorem str_add (a b : List UInt8) (h : a.length + b.length ≤ 1000000) (w : World) : (Op.stringOp .add ⟨a.toArray⟩ ⟨b.toArray⟩).run Tryz.prog w = .ok (.string ⟨(a ++ b).toArray⟩) w := by
  have h2 := run_string_add_sum (P := Tryz.prog) w (⟨a.toArray⟩ : ByteArray) ⟨b.toArray⟩ (show a.length + b.length ≤ 9223372036854775807 by omega)
  rwa [ba_app] at h2
theorem itoa_short {n : Int} (h0 : 0 ≤ n) (h1 : n ≤ 65536) : (Lib.itoa n).length ≤ 21 := Lib.itoa_length_le n (by omega) (by omega)
theorem wordTo_len {c : Int} {el : List Int} (hc : 0 ≤ c ∧ c ≤ 65536) (he : ∀ x ∈ el, 0 ≤ x ∧ x ≤ 65535) (hl : el.length ≤ 1000) : ∀ k, k ≤ el.length → (wordTo c el k).length ≤ 21 + 50 * k
  | 0, _ => by have := itoa_short hc.1 hc.2; simp [wordTo]; omega
  | k + 1, h => by
    have ih := wordTo_len hc he hl k (by omega)
    have hb := he (ia el k) (ia_mem (by omega))
    have i1 := itoa_short (n := (k : Int)) (by omega) (by omega)
    have i2 := itoa_short (n := ia el k) (by omega) (by omega)
    rw [wordTo_succ, List.length_append]
    have : (expW k (ia el k)).length ≤ 50 := by
      unfold expW
      split <;> split <;> simp <;> omega
    omega
set_option maxRecDepth 100000 in
set_option maxHeartbeats 1000000 in
theorem word56_any (c : Int) (el : List Int) (E : Option Addr) (cE : Nat) (w : World) (hp : PowOk w) (hE : Rd w E (ints el)) (hc : 0 ≤ c ∧ c ≤ 65536) (hl : el.length ≤ 1000) (he : ∀ x ∈ el, 0 ≤ x ∧ x ≤ 65535) :
    Calls Tryz.prog 57 #[tV c E el.length cE] w fun e w' => e = .returned (.string ⟨(wordTo c el el.length).toArray⟩) ∧ Kept w w' := by
  unfold tV
  have CI := Lib.hid fun (w' : World) (k : Kept w w') (n : Int) (h : 0 ≤ n ∧ n ≤ 65536) => itoa63 n (by omega) (by omega) w' (hp.kept k)
  have K0 := kept_alloc (kept_refl w) (.cells #[.int .i64 c, .slice E el.length cE] 64)
  have C0 := Lib.hid (CI.out _ K0 c hc)
  have HE := Lib.hid hE
  have HB := Lib.hid he
  have HW := Lib.hid (wordTo_len hc he hl)
  obtain ⟨dg, hdg⟩ : ∃ dg : ByteArray, dg = ⟨(Lib.itoa c).toArray⟩ := ⟨_, rfl⟩
  rw [← hdg] at C0
  have HDG := Lib.hid hdg
  have o1 := Own.new w 64 [.int .i64 c, .slice E el.length cE]
  clear hp hE he hdg
  go_enter Tryz.func57, Tryz.ntmps57
  go_wp2_with (go_at_call 79; ((with_reducible refine C0.out.mono ?_); rintro e w1 ⟨rfl, k1⟩; replace K0 := kept_trans K0 k1; have q1 := (o1.kept k1).cell (j := 1) rfl))
  go_loopg [3, 4, 5, 12] el.length (fun G s3 s4 s5 s12 wr => ∃ (k : Nat) (v4 v5 : Value) (s : ByteArray), k ≤ el.length ∧ G = el.length - k ∧ s3 = .string s ∧ s4 = v4 ∧ s5 = v5 ∧ s12 = .int .i64 k ∧ Hid (s = ⟨(wordTo c el k).toArray⟩) ∧ Kept w wr)
  case atStart => exact ⟨0, _, _, dg, by omega, rfl, rfl, rfl, rfl, rfl, Lib.hid (by rw [HDG.out]; simp [wordTo]), K0⟩
  case round =>
    clear K0 q1
    obtain ⟨k, v4, v5, s, hk, rfl, rfl, rfl, rfl, rfl, HS, K0⟩ := hrel
    by_cases hlt : k < el.length
    · obtain ⟨b1, f1, rfl, h1⟩ := (HE.out.kept K0).int hlt
      have a0 := h1 k hlt
      have hb := HB.out (ia el k) (ia_mem hlt)
      obtain ⟨x, hx⟩ : ∃ x, x = ia el k := ⟨_, rfl⟩
      rw [← hx] at a0 hb
      have HX := Lib.hid hx
      clear h1 hx
      have CK := Lib.hid fun w' kk => CI.out w' kk (k : Int) (by omega)
      have CX := Lib.hid fun w' kk => CI.out w' kk x (by omega)
      obtain ⟨dk, hdk⟩ : ∃ dk : ByteArray, dk = ⟨(Lib.itoa (k : Int)).toArray⟩ := ⟨_, rfl⟩
      obtain ⟨dx, hdx⟩ : ∃ dx : ByteArray, dx = ⟨(Lib.itoa x).toArray⟩ := ⟨_, rfl⟩
      have hbw := HW.out k hk
      have i1 := itoa_short (n := (k : Int)) (by omega) (by omega)
      have i2 := itoa_short (n := x) (by omega) (by omega)
      have b1 := str_add [42, 120] (Lib.itoa (k : Int)) (by simp; omega)
      have b2 := str_add (wordTo c el k) ([42, 120] ++ Lib.itoa (k : Int)) (by simp; omega)
      have b3 := str_add [94] (Lib.itoa x) (by simp; omega)
      have b4 := str_add (wordTo c el k ++ ([42, 120] ++ Lib.itoa (k : Int))) ([94] ++ Lib.itoa x) (by simp; omega)
      obtain ⟨s1, hs1⟩ : ∃ s1 : ByteArray, s1 = ⟨([42, 120] ++ Lib.itoa (k : Int)).toArray⟩ := ⟨_, rfl⟩
      obtain ⟨s2, hs2⟩ : ∃ s2 : ByteArray, s2 = ⟨(wordTo c el k ++ ([42, 120] ++ Lib.itoa (k : Int))).toArray⟩ := ⟨_, rfl⟩
      obtain ⟨s3, hs3⟩ : ∃ s3 : ByteArray, s3 = ⟨([94] ++ Lib.itoa x).toArray⟩ := ⟨_, rfl⟩
      obtain ⟨s4, hs4⟩ : ∃ s4 : ByteArray, s4 = ⟨(wordTo c el k ++ ([42, 120] ++ Lib.itoa (k : Int)) ++ ([94] ++ Lib.itoa x)).toArray⟩ := ⟨_, rfl⟩
      rw [← hdk] at CK b1
      rw [← hdx] at CX b3
      rw [← hs1] at b1 b2
      rw [← hs2] at b2 b4
      rw [← hs3] at b3 b4
      rw [← hs4] at b4
      rw [← HS.out] at b2
      have HS2 := Lib.hid hs2
      have HS4' := Lib.hid hs4
      have HS4 := Lib.hid (show s4 = ⟨((wordTo c el k ++ ([42, 120] ++ Lib.itoa (k : Int))) ++ ([94] ++ Lib.itoa x)).toArray⟩ from hs4)
      clear hdk hdx hs1 hs2 hs3 hs4 hbw i1 i2 HS4'
      by_cases c1 : 0 < x
      · have d1 : decide (0 < x) = true := decide_eq_true c1
        by_cases c2 : 1 < x
        · have d2 : decide (1 < x) = true := decide_eq_true c2
          go_wp2_with (first | (go_at_call 79; ((with_reducible refine (CK.out _ K0).mono ?_); rintro e w3 ⟨rfl, k3⟩; replace K0 := kept_trans K0 k3)) | (go_at_call 79; ((with_reducible refine (CX.out _ K0).mono ?_); rintro e w4 ⟨rfl, k4⟩; replace K0 := kept_trans K0 k4)))
          go_roundg (el.length - (k + 1))
          case rel => exact ⟨k + 1, _, _, _, by omega, rfl, rfl, rfl, rfl, by go_num, Lib.hid (by rw [HS4.out, wordTo_succ, ← HX.out]; unfold expW; rw [if_pos c1, if_pos c2]; simp), K0⟩
          case measure => omega
        · have d2 : decide (1 < x) = false := decide_eq_false c2
          go_wp2_with (first | (go_at_call 79; ((with_reducible refine (CK.out _ K0).mono ?_); rintro e w3 ⟨rfl, k3⟩; replace K0 := kept_trans K0 k3)))
          go_roundg (el.length - (k + 1))
          case rel => exact ⟨k + 1, _, _, _, by omega, rfl, rfl, rfl, rfl, by go_num, Lib.hid (by rw [HS2.out, wordTo_succ, ← HX.out]; unfold expW; rw [if_pos c1, if_neg (by omega)]; simp), K0⟩
          case measure => omega
      · have d1 : decide (0 < x) = false := decide_eq_false c1
        have d2 : decide (1 < x) = false := decide_eq_false (by omega)
        go_wp2_with fail
        go_roundg (el.length - (k + 1))
        case rel => exact ⟨k + 1, _, _, s, by omega, rfl, rfl, rfl, rfl, by go_num, Lib.hid (by rw [HS.out, wordTo_succ, ← HX.out]; unfold expW; rw [if_neg (by omega), if_neg (by omega)]; simp), K0⟩
        case measure => omega
    · obtain rfl : k = el.length := by omega
      go_wp2_with fail
      go_ret
      exact ⟨congrArg (fun s => Ending.returned (.string s)) HS.out, K0⟩
end Go.Proofs.YtnjmpjdampdmmaaGreatDoor

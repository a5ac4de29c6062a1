/- Walks of the text form of a value. -/
import Derived.Test.YtlmiadeaiiehaaaDoorValW
import Derived.Test.YtlmiadeaiiehaaaDoorHeldT
import Derived.Laws.IdiomStrings
import Derived.Shelf.Strconv.Itoa3
import Derived.Lib.ItoaNum
namespace Go.Proofs.YtlmiadeaiiehaaaDoor
open Go Go.RowKit Go.Shelf

def itoaL_ren : Go.Shelf.Ren := ⟨fun | 171 => 10 | 243 => 13 | 246 => 14 | 283 => 15 | 284 => 16 | 285 => 17 | 286 => 18 | 129 => 20 | 317 => 19 | 318 => 21 | 319 => 22 | 320 => 23 | 337 => 24 | 338 => 25 | n => n, fun | 3 => 3 | 9 => 9 | 2 => 2 | 4 => 4 | 171 => 34 | 0 => 0 | 53 => 35 | 37 => 32 | 5 => 5 | 173 => 38 | 212 => 42 | 51 => 43 | 20 => 20 | 213 => 44 | 46 => 46 | 232 => 49 | 233 => 50 | n => n, fun | 17 => 0 | 18 => 1 | 19 => 2 | n => n⟩
theorem itoaL : Go.Proofs.LaysM.n171 Tryd.prog itoaL_ren := {
  mixed := by kernel_rfl
  f129 := Tryd.func20.trans (congrArg some (by kernel_rfl))
  f171 := Tryd.func10.trans (congrArg some (by kernel_rfl))
  f243 := Tryd.func13.trans (congrArg some (by kernel_rfl))
  f246 := Tryd.func14.trans (congrArg some (by kernel_rfl))
  f283 := Tryd.func15.trans (congrArg some (by kernel_rfl))
  f284 := Tryd.func16.trans (congrArg some (by kernel_rfl))
  f285 := Tryd.func17.trans (congrArg some (by kernel_rfl))
  f286 := Tryd.func18.trans (congrArg some (by kernel_rfl))
  f317 := Tryd.func19.trans (congrArg some (by kernel_rfl))
  f318 := Tryd.func21.trans (congrArg some (by kernel_rfl))
  f319 := Tryd.func22.trans (congrArg some (by kernel_rfl))
  f320 := Tryd.func23.trans (congrArg some (by kernel_rfl))
  f337 := Tryd.func24.trans (congrArg some (by kernel_rfl))
  f338 := Tryd.func25.trans (congrArg some (by kernel_rfl))
  t0 := Tryd.underlying0
  a0 := Tryd.isAgg0
  z0 := Tryd.sizeOf0
  v0 := Tryd.zeroValue0
  t2 := Tryd.underlying2
  a2 := Tryd.isAgg2
  z2 := Tryd.sizeOf2
  v2 := Tryd.zeroValue2
  t3 := Tryd.underlying3
  a3 := Tryd.isAgg3
  z3 := Tryd.sizeOf3
  v3 := Tryd.zeroValue3
  t4 := Tryd.underlying4
  a4 := Tryd.isAgg4
  z4 := Tryd.sizeOf4
  v4 := Tryd.zeroValue4
  t5 := Tryd.underlying5
  a5 := Tryd.isAgg5
  z5 := Tryd.sizeOf5
  v5 := Tryd.zeroValue5
  t9 := Tryd.underlying9
  a9 := Tryd.isAgg9
  z9 := Tryd.sizeOf9
  v9 := Tryd.zeroValue9
  t20 := Tryd.underlying20
  a20 := Tryd.isAgg20
  z20 := Tryd.sizeOf20
  v20 := Tryd.zeroValue20
  t37 := Tryd.underlying32
  a37 := Tryd.isAgg32
  z37 := Tryd.sizeOf32
  v37 := Tryd.zeroValue32
  t46 := Tryd.underlying46
  a46 := Tryd.isAgg46
  z46 := Tryd.sizeOf46
  v46 := Tryd.zeroValue46
  t51 := Tryd.underlying43
  a51 := Tryd.isAgg43
  z51 := Tryd.sizeOf43
  v51 := Tryd.zeroValue43
  t53 := Tryd.underlying35
  a53 := Tryd.isAgg35
  z53 := Tryd.sizeOf35
  v53 := Tryd.zeroValue35
  t171 := Tryd.underlying34
  a171 := Tryd.isAgg34
  z171 := Tryd.sizeOf34
  v171 := Tryd.zeroValue34
  t173 := Tryd.underlying38
  a173 := Tryd.isAgg38
  z173 := Tryd.sizeOf38
  v173 := Tryd.zeroValue38
  t212 := Tryd.underlying42
  a212 := Tryd.isAgg42
  z212 := Tryd.sizeOf42
  v212 := Tryd.zeroValue42
  t213 := Tryd.underlying44
  a213 := Tryd.isAgg44
  z213 := Tryd.sizeOf44
  t232 := Tryd.underlying49
  a232 := Tryd.isAgg49
  z232 := Tryd.sizeOf49
  v232 := Tryd.zeroValue49
  t233 := Tryd.underlying50
  a233 := Tryd.isAgg50
  z233 := Tryd.sizeOf50
  v233 := Tryd.zeroValue50
  g17 := by kernel_rfl
  g18 := by kernel_rfl
  g19 := by kernel_rfl
  i0 := by kernel_rfl
  i2 := by kernel_rfl
  i3 := by kernel_rfl
  i4 := by kernel_rfl
  i5 := by kernel_rfl
  i9 := by kernel_rfl
  i20 := by kernel_rfl
  i37 := by kernel_rfl
  i46 := by kernel_rfl
  i51 := by kernel_rfl
  i53 := by kernel_rfl
  i171 := by kernel_rfl
  i173 := by kernel_rfl
  i212 := by kernel_rfl
  i232 := by kernel_rfl
  i233 := by kernel_rfl
  m17 := by kernel_rfl
  m18 := by kernel_rfl
  m19 := by kernel_rfl }

/-- string(b) of one digit. -/
theorem cvt1 (w : World) (g d : Nat) (hd : d < 10) (h : w.cell? ⟨g, 0, none⟩ = some (.int .u8 (48 + (d : Int)))) :
    (convert 32 9 (.slice (some ⟨g, 0, none⟩) 1 1)).run Tryd.prog w = .ok (.string ⟨[UInt8.ofNat (48 + d)].toArray⟩) w := by
  refine run_convert_bytes_back w 32 9 5 ⟨g, 0, none⟩ 1 [UInt8.ofNat (48 + d)] Tryd.underlying32 Tryd.underlying5 Tryd.underlying9 fun j hj => ?_
  obtain rfl : j = 0 := by simpa using hj
  have e : (⟨g, 0, none⟩ : Addr).add 0 = ⟨g, 0, none⟩ := by simp [Addr.add]
  rw [e, h]
  have : (UInt8.ofNat (48 + d)).toNat = 48 + d := by rw [UInt8.toNat_ofNat']; omega
  simp [this]
  try omega
theorem dec_len (n : Nat) : (Lib.decDigits n).length ≤ n + 1 := by
  induction n using Nat.strongRecOn with
  | _ n ih =>
    by_cases h : n < 10
    · rw [Lib.decDigits_one h]; simp
    · rw [Lib.decDigits, dif_neg h, List.length_append]
      have := ih (n / 10) (by omega)
      simp only [List.length_cons, List.length_nil]
      omega
set_option maxRecDepth 100000 in
set_option maxHeartbeats 2000000 in
theorem fmtNat : ∀ (n : Nat), n ≤ 9999 → ∀ (w : World), Calls Tryd.prog 12 #[.int .i64 (n : Int)] w fun e w' => e = .returned (.string ⟨(Lib.decDigits n).toArray⟩) ∧ Fr w w' := by
  intro n
  induction n using Nat.strongRecOn with
  | _ n ih =>
    intro hn w
    have d1 : decide ((n : Int) < -9223372036854775807) = false := decide_eq_false (by omega)
    have d2 : decide ((n : Int) < 0) = false := by simp
    by_cases h : n < 10
    · have d3 : decide ((n : Int) < 10) = true := by simp; omega
      have F1 : Fr w (w.alloc (.cells #[.int .u8 (48 + (n : Int))] 5)) := (Fr.refl _).alloc _
      have hcv := cvt1 (w.alloc (.cells #[.int .u8 (48 + (n : Int))] 5)) w.heap.size n h ((Blk.new w 5 #[.int .u8 (48 + (n : Int))]).cell 0)
      rw [Lib.decDigits_one h]
      obtain ⟨s, es⟩ : ∃ s, [UInt8.ofNat (48 + n)].toArray = s := ⟨_, rfl⟩
      rw [es] at hcv ⊢
      clear es
      go_enter Tryd.func12, Tryd.ntmps12
      go_wp2
      go_ret
      exact ⟨rfl, F1⟩
    · have d3 : decide ((n : Int) < 10) = false := by simp; omega
      have hq : (n : Int).tdiv 10 = ((n / 10 : Nat) : Int) := by rw [Int.tdiv_eq_ediv_of_nonneg (by omega)]; omega
      have hr : (n : Int).tmod 10 = ((n % 10 : Nat) : Int) := by rw [Int.tmod_eq_emod_of_nonneg (by omega)]; omega
      obtain ⟨q, eq⟩ : ∃ q, n / 10 = q := ⟨_, rfl⟩
      obtain ⟨d, ed⟩ : ∃ d, n % 10 = d := ⟨_, rfl⟩
      have hd : d < 10 := by omega
      have hqb : q ≤ 9999 := by omega
      have IH := hid (ih q (by omega) (by omega))
      have E := hid (show Lib.decDigits n = Lib.decDigits q ++ [UInt8.ofNat (48 + d)] by rw [Lib.decDigits, dif_neg h, eq, ed])
      rw [eq] at hq
      rw [ed] at hr
      clear ih eq ed
      have w1 : IntKind.i64.wrap (q : Int) = (q : Int) := by rw [IntKind.wrap_i64]; omega
      have w2 : IntKind.i64.wrap (48 + (d : Int)) = 48 + (d : Int) := by rw [IntKind.wrap_i64]; omega
      have w3 : IntKind.u8.wrap (48 + (d : Int)) = 48 + (d : Int) := by simp only [IntKind.wrap]; simp [IntKind.bits, IntKind.signed]; omega
      go_enter Tryd.func12, Tryd.ntmps12
      go_wp2_with fail
      refine wp_region_T (fun _ => True) 10 (by kernel_rfl) ?_
      have HS := True.intro
      ((refine wpAnyT_take 0 (v := ?_) rfl (by kernel_rfl) (fun _ _ _ h => h) (Or.inl ⟨by rfl, ?_⟩) (by assumption) ?_; rotate_left; (focus (intro W hSw; (try dsimp only at hSw); go_simp; (try with_reducible rfl); done)); (try simp only [Act.put, List.setIfInBounds_toArray, List.set_cons_zero, List.set_cons_succ])); (refine wpAnyT_take 1 (v := ?_) rfl (by kernel_rfl) (fun _ _ _ h => h) (Or.inl ⟨by rfl, ?_⟩) (by assumption) ?_; rotate_left; (focus (intro W hSw; (try dsimp only at hSw); go_simp; (try with_reducible rfl); done)); (try simp only [Act.put, List.setIfInBounds_toArray, List.set_cons_zero, List.set_cons_succ])); (refine wpAnyT_take 3 (v := ?_) rfl (by kernel_rfl) (fun _ _ _ h => h) (Or.inl ⟨by rfl, ?_⟩) (by assumption) ?_; rotate_left; (focus (intro W hSw; (try dsimp only at hSw); go_simp; (try with_reducible rfl); done)); (try simp only [Act.put, List.setIfInBounds_toArray, List.set_cons_zero, List.set_cons_succ])); (refine wpAnyT_take 4 (v := ?_) rfl (by kernel_rfl) (fun _ _ _ h => h) (Or.inl ⟨by rfl, ?_⟩) (by assumption) ?_; rotate_left; (focus (intro W hSw; (try dsimp only at hSw); go_simp; (try with_reducible rfl); done)); (try simp only [Act.put, List.setIfInBounds_toArray, List.set_cons_zero, List.set_cons_succ])); (refine wpAnyT_take 5 (v := ?_) rfl (by kernel_rfl) (fun _ _ _ h => h) (Or.inl ⟨by rfl, ?_⟩) (by assumption) ?_; rotate_left; (focus (intro W hSw; (try dsimp only at hSw); go_simp; (try with_reducible rfl); done)); (try simp only [Act.put, List.setIfInBounds_toArray, List.set_cons_zero, List.set_cons_succ])); (refine wpAnyT_take 6 (v := ?_) rfl (by kernel_rfl) (fun _ _ _ h => h) (Or.inl ⟨by rfl, ?_⟩) (by assumption) ?_; rotate_left; (focus (intro W hSw; (try dsimp only at hSw); go_simp; (try with_reducible rfl); done)); (try simp only [Act.put, List.setIfInBounds_toArray, List.set_cons_zero, List.set_cons_succ])))
      obtain ⟨Y, eY⟩ : ∃ s, [UInt8.ofNat (48 + d)].toArray = s := ⟨_, rfl⟩
      obtain ⟨X, eX⟩ : ∃ s, (Lib.decDigits q).toArray = s := ⟨_, rfl⟩
      have CV := hid (fun W g h => cvt1 W g d hd h)
      have END := hid (show Ending.returned (.string (⟨X⟩ ++ ⟨Y⟩)) = Ending.returned (.string ⟨(Lib.decDigits n).toArray⟩) by
        rw [E.out, ← eX, ← eY]
        rfl)
      have hsz : ¬ (9223372036854775807 < X.size + Y.size) := by
        rw [← eX, ← eY]
        have := dec_len q
        simp only [List.size_toArray, List.length_cons, List.length_nil]
        omega
      rw [eY] at CV
      rw [eX] at IH
      clear eX eY d1 d2 d3
      (refine wpAnyT_two 2 7 rfl rfl (by kernel_rfl) (fun K hK => ?_) (fun K hK => ?_))
      · go_simp
        refine (IH.out _).mono ?_
        rintro e w4 ⟨rfl, b2⟩
        ((try dsimp only); refine hK.out _ _ (fun _ => HS) (fun _ => ?_); clear hK K; (try simp only [Act.put, List.setIfInBounds_toArray, List.set_cons_zero, List.set_cons_succ]))
        ((refine wpAnyT_one 7 rfl (by kernel_rfl) (fun K hK => ?_); go_simp))
        ((try dsimp only); refine hK.out _ _ (fun _ => HS) (fun _ => ?_); clear hK K; (try simp only [Act.put, List.setIfInBounds_toArray, List.set_cons_zero, List.set_cons_succ]))
        have hcv := CV.out (w4.alloc (.cells #[.int .u8 (48 + (d : Int))] 5)) w4.heap.size ((Blk.new w4 5 #[.int .u8 (48 + (d : Int))]).cell 0)
        have FF : Fr w (w4.alloc (.cells #[.int .u8 (48 + (d : Int))] 5)) := (Fr.trans (by (repeat (first | with_reducible exact Fr.refl _ | with_reducible assumption | with_reducible refine Fr.alloc ?_ _ | with_reducible refine Fr.drew ?_ | with_reducible refine Fr.drewN ?_ _ | (with_reducible refine Fr.setNew2 ?_ ?_ _; · (simp <;> omega)) | with_reducible refine Fr.trans ?_ (by assumption)))) b2).alloc _
        ((refine wpAnyT_one 8 rfl (by kernel_rfl) (fun K hK => ?_); go_simp))
        ((try dsimp only); refine hK.out _ _ (fun _ => HS) (fun _ => ?_); clear hK K; (try simp only [Act.put, List.setIfInBounds_toArray, List.set_cons_zero, List.set_cons_succ]))
        ((refine wpAnyT_take 9 (v := ?_) rfl (by kernel_rfl) (fun _ _ _ h => h) (Or.inl ⟨by rfl, ?_⟩) (by assumption) ?_; rotate_left; (focus (intro W hSw; (try dsimp only at hSw); go_simp; (try with_reducible rfl); done)); (try simp only [Act.put, List.setIfInBounds_toArray, List.set_cons_zero, List.set_cons_succ])))
        ((refine wpAnyT_one 10 rfl (by kernel_rfl) (fun K hK => ?_); go_simp))
        ((try dsimp only); refine hK.out _ _ (fun h => absurd rfl h) (fun _ => ?_); clear hK K; (try simp only [Act.put, List.setIfInBounds_toArray, List.set_cons_zero, List.set_cons_succ]); refine wpAnyT_done (by kernel_rfl) ?_ _)
        go_wp2
        go_ret
        exact ⟨END.out, FF⟩
      · go_simp
        ((try dsimp only); refine hK.out _ _ (fun _ => HS) (fun _ => ?_); clear hK K; (try simp only [Act.put, List.setIfInBounds_toArray, List.set_cons_zero, List.set_cons_succ]))
        have FB : Fr w (w.alloc (.cells #[.int .u8 (48 + (d : Int))] 5)).drew := ((Fr.refl _).alloc _).drew
        have CE : (w.alloc (.cells #[.int .u8 (48 + (d : Int))] 5)).drew.cell? ⟨w.heap.size, 0, none⟩ = some (.int .u8 (48 + (d : Int))) := (Blk.new w 5 #[.int .u8 (48 + (d : Int))]).cell 0
        (refine wpAnyT_two 2 8 rfl rfl (by kernel_rfl) (fun K hK => ?_) (fun K hK => ?_))
        · go_simp
          refine (IH.out _).mono ?_
          rintro e w4 ⟨rfl, b2⟩
          ((try dsimp only); refine hK.out _ _ (fun _ => HS) (fun _ => ?_); clear hK K; (try simp only [Act.put, List.setIfInBounds_toArray, List.set_cons_zero, List.set_cons_succ]))
          have hcv := CV.out w4 w.heap.size (b2.cell CE)
          have FF : Fr w w4 := FB.trans b2
          ((refine wpAnyT_one 8 rfl (by kernel_rfl) (fun K hK => ?_); go_simp))
          ((try dsimp only); refine hK.out _ _ (fun _ => HS) (fun _ => ?_); clear hK K; (try simp only [Act.put, List.setIfInBounds_toArray, List.set_cons_zero, List.set_cons_succ]))
          ((refine wpAnyT_take 9 (v := ?_) rfl (by kernel_rfl) (fun _ _ _ h => h) (Or.inl ⟨by rfl, ?_⟩) (by assumption) ?_; rotate_left; (focus (intro W hSw; (try dsimp only at hSw); go_simp; (try with_reducible rfl); done)); (try simp only [Act.put, List.setIfInBounds_toArray, List.set_cons_zero, List.set_cons_succ])))
          ((refine wpAnyT_one 10 rfl (by kernel_rfl) (fun K hK => ?_); go_simp))
          ((try dsimp only); refine hK.out _ _ (fun h => absurd rfl h) (fun _ => ?_); clear hK K; (try simp only [Act.put, List.setIfInBounds_toArray, List.set_cons_zero, List.set_cons_succ]); refine wpAnyT_done (by kernel_rfl) ?_ _)
          go_wp2
          go_ret
          exact ⟨END.out, FF⟩
        · have hcv := CV.out (w.alloc (.cells #[.int .u8 (48 + (d : Int))] 5)).drew w.heap.size CE
          go_simp
          ((try dsimp only); refine hK.out _ _ (fun _ => HS) (fun _ => ?_); clear hK K; (try simp only [Act.put, List.setIfInBounds_toArray, List.set_cons_zero, List.set_cons_succ]))
          ((refine wpAnyT_one 2 rfl (by kernel_rfl) (fun K hK => ?_); go_simp))
          refine (IH.out _).mono ?_
          rintro e w4 ⟨rfl, b2⟩
          have FF : Fr w w4 := FB.trans b2
          ((try dsimp only); refine hK.out _ _ (fun _ => HS) (fun _ => ?_); clear hK K; (try simp only [Act.put, List.setIfInBounds_toArray, List.set_cons_zero, List.set_cons_succ]))
          ((refine wpAnyT_take 9 (v := ?_) rfl (by kernel_rfl) (fun _ _ _ h => h) (Or.inl ⟨by rfl, ?_⟩) (by assumption) ?_; rotate_left; (focus (intro W hSw; (try dsimp only at hSw); go_simp; (try with_reducible rfl); done)); (try simp only [Act.put, List.setIfInBounds_toArray, List.set_cons_zero, List.set_cons_succ])))
          ((refine wpAnyT_one 10 rfl (by kernel_rfl) (fun K hK => ?_); go_simp))
          ((try dsimp only); refine hK.out _ _ (fun h => absurd rfl h) (fun _ => ?_); clear hK K; (try simp only [Act.put, List.setIfInBounds_toArray, List.set_cons_zero, List.set_cons_succ]); refine wpAnyT_done (by kernel_rfl) ?_ _)
          go_wp2
          go_ret
          exact ⟨END.out, FF⟩
/-- The reference's formatInt, at the numbers that values hold. -/
theorem fmtInt (n : Int) (h1 : -9999 ≤ n) (h2 : n ≤ 9999) (w : World) : Calls Tryd.prog 12 #[.int .i64 n] w fun e w' => e = .returned (.string ⟨(Lib.itoa n).toArray⟩) ∧ Fr w w' := by
  by_cases hn : 0 ≤ n
  · obtain ⟨m, rfl⟩ : ∃ m : Nat, n = (m : Int) := ⟨n.toNat, by omega⟩
    have e : Lib.itoa (m : Int) = Lib.decDigits m := by unfold Lib.itoa; rw [if_neg (by omega)]; rfl
    rw [e]
    exact fmtNat m (by omega) w
  · obtain ⟨m, rfl⟩ : ∃ m : Nat, n = -(m : Int) := ⟨n.natAbs, by omega⟩
    have e : Lib.itoa (-(m : Int)) = 45 :: Lib.decDigits m := by unfold Lib.itoa; rw [if_pos (by omega)]; simp
    have hm : m ≤ 9999 := by omega
    have hm0 : 0 < m := by omega
    have hm1 : ¬ ((9223372036854775807 : Int) < (m : Int)) := by omega
    rw [e]
    have d1 : decide (-(m : Int) < -9223372036854775807) = false := decide_eq_false (by omega)
    have d2 : decide (-(m : Int) < 0) = true := decide_eq_true (by omega)
    have IH := hid (fmtNat m hm)
    obtain ⟨X, eX⟩ : ∃ s, (Lib.decDigits m).toArray = s := ⟨_, rfl⟩
    have END := hid (show Ending.returned (.string (⟨#[45]⟩ ++ ⟨X⟩)) = Ending.returned (.string ⟨(45 :: Lib.decDigits m).toArray⟩) by
      rw [← eX]
      rfl)
    have hsz : ¬ (9223372036854775807 < 1 + X.size) := by
      rw [← eX]
      have := dec_len m
      simp only [List.size_toArray]
      omega
    rw [eX] at IH
    clear eX e hn
    have w1 : IntKind.i64.wrap (m : Int) = (m : Int) := by rw [IntKind.wrap_i64]; omega
    go_enter Tryd.func12, Tryd.ntmps12
    go_wp2_with fail
    refine (IH.out _).mono ?_
    rintro e w2 ⟨rfl, b2⟩
    go_wp2
    go_ret
    exact ⟨END.out, b2⟩
/-- The program's Itoa. -/
theorem implItoa (n : Int) (h1 : -9999 ≤ n) (h2 : n ≤ 9999) (w : World) (htab : Lib.TabIs Tryd.prog w "internal/strconv.uint64pow10" .u64 Lib.pow10Tab) :
    Calls Tryd.prog 10 #[.int .i64 n] w fun e w' => e = .returned (.string ⟨(Lib.itoa n).toArray⟩) ∧ Fr w w' :=
  (Any.strconv_Itoa itoaL n (by omega) (by omega) w htab).mono fun e w' ⟨h, k, os, hw⟩ => by
    subst hw
    exact ⟨h, ⟨rfl, rfl, rfl, by simp [Sort.grow, World.drewN], fun j hj => by
      show (w.heap ++ os)[j]? = w.heap[j]?
      rw [Array.getElem?_append_left hj]⟩⟩
theorem tab_fr {w w' : World} (h : Lib.TabIs Tryd.prog w "internal/strconv.uint64pow10" .u64 Lib.pow10Tab) (hf : Fr w w') : Lib.TabIs Tryd.prog w' "internal/strconv.uint64pow10" .u64 Lib.pow10Tab := by
  unfold Lib.TabIs World.var? at h ⊢
  cases hg : Tryd.prog.globalNamed "internal/strconv.uint64pow10" with
  | none => rw [hg] at h; cases h
  | some g =>
    rw [hg] at h
    simp only [Option.bind_some] at h ⊢
    have hlt : g < w.heap.size := by
      rcases Nat.lt_or_ge g w.heap.size with h1 | h1
      · exact h1
      · rw [Array.getElem?_eq_none h1] at h
        cases h
    rw [hf.block g hlt]
    exact h
/-- The text form of a value. -/
def encS (b : Bool) (n : Int) : List UInt8 := if (V.mk b n).valid then (if b then [110, 117, 108, 108] else Lib.itoa n) else []
theorem enc_bounds {n : Int} (h : (V.mk false n).valid = true) : -9999 ≤ n ∧ n ≤ 9999 := by
  simpa [V.valid] using h
set_option maxRecDepth 100000 in
theorem fmtVal (b : Bool) (n : Int) (hv : (V.mk b n).valid = true) (w : World) : Calls Tryd.prog 8 #[.agg #[.bool b, .int .i64 n]] w fun e w' => e = .returned (.string ⟨(encS b n).toArray⟩) ∧ Fr w w' := by
  have F0 : Fr w (w.alloc (.cells #[.bool b, .int .i64 n] 25)) := (Fr.refl _).alloc _
  have E0 : encS b n = if b then [110, 117, 108, 108] else Lib.itoa n := by unfold encS; rw [hv]; rfl
  cases b
  · obtain ⟨h1, h2⟩ := enc_bounds hv
    have E := hid (show encS false n = Lib.itoa n from E0)
    have IT := hid (fmtInt n h1 h2)
    obtain ⟨X, eX⟩ : ∃ s, (Lib.itoa n).toArray = s := ⟨_, rfl⟩
    rw [eX] at IT
    rw [E.out, eX]
    clear eX E0 E hv
    go_enter Tryd.func8, Tryd.ntmps8
    go_wp2_with fail
    refine (IT.out _).mono ?_
    rintro e w2 ⟨rfl, b2⟩
    go_wp2
    go_ret
    exact ⟨rfl, F0.trans b2⟩
  · have E := hid (show encS true n = [110, 117, 108, 108] from E0)
    rw [E.out]
    clear E0 E hv
    go_enter Tryd.func8, Tryd.ntmps8
    go_wp2
    go_ret
    exact ⟨rfl, F0⟩
set_option maxRecDepth 100000 in
theorem specEnc (b : Bool) (n : Int) (w : World) : Calls Tryd.prog 4 #[.agg #[.bool b, .int .i64 n]] w fun e w' => e = .returned (.string ⟨(encS b n).toArray⟩) ∧ Fr w w' := by
  have F0 : Fr w (w.alloc (.cells #[.bool b, .int .i64 n] 25)) := (Fr.refl _).alloc _
  have BV := Blk.new w 25 #[.bool b, .int .i64 n]
  obtain ⟨X, eX⟩ : ∃ s, (encS b n).toArray = s := ⟨_, rfl⟩
  have EX := hid eX
  rw [eX]
  clear eX
  go_enter Tryd.func4, Tryd.ntmps4
  go_wp2_with fail
  refine (specValid b n _).mono ?_
  rintro e w1 ⟨rfl, b1⟩
  have F1 := F0.trans b1
  obtain ⟨c0, c1, _⟩ := (BV.fr b1).pair
  cases hv : (V.mk b n).valid
  · have E := hid (show (#[] : Array UInt8) = X by rw [← EX.out]; unfold encS; rw [hv]; rfl)
    clear hv
    go_wp2
    go_ret
    rw [E.out]
    exact ⟨rfl, F1⟩
  · have FV := hid (fmtVal b n hv)
    rw [EX.out] at FV
    clear hv
    go_wp2_with fail
    refine (FV.out _).mono ?_
    rintro e w2 ⟨rfl, b2⟩
    go_wp2
    go_ret
    exact ⟨rfl, F1.trans b2⟩
set_option maxRecDepth 100000 in
theorem implEnc (b : Bool) (n : Int) (w : World) (htab : Lib.TabIs Tryd.prog w "internal/strconv.uint64pow10" .u64 Lib.pow10Tab) : Calls Tryd.prog 6 #[.agg #[.bool b, .int .i64 n]] w fun e w' => e = .returned (.string ⟨(encS b n).toArray⟩) ∧ Fr w w' := by
  have F0 : Fr w (w.alloc (.cells #[.bool b, .int .i64 n] 25)) := (Fr.refl _).alloc _
  have BV := Blk.new w 25 #[.bool b, .int .i64 n]
  have HT := hid htab
  clear htab
  obtain ⟨X, eX⟩ : ∃ s, (encS b n).toArray = s := ⟨_, rfl⟩
  have EX := hid eX
  rw [eX]
  clear eX
  go_enter Tryd.func6, Tryd.ntmps6
  go_wp2_with fail
  refine (implValid b n _).mono ?_
  rintro e w1 ⟨rfl, b1⟩
  have F1 := F0.trans b1
  obtain ⟨c0, c1, _⟩ := (BV.fr b1).pair
  cases hv : (V.mk b n).valid
  · have E := hid (show (#[] : Array UInt8) = X by rw [← EX.out]; unfold encS; rw [hv]; rfl)
    clear hv
    go_wp2
    go_ret
    rw [E.out]
    exact ⟨rfl, F1⟩
  · cases b
    · obtain ⟨h1, h2⟩ := enc_bounds hv
      have IT := hid (fun W (h : Fr w W) => implItoa n h1 h2 W (tab_fr HT.out h))
      have E : (Lib.itoa n).toArray = X := by rw [← EX.out]; unfold encS; rw [hv]; rfl
      rw [E] at IT
      clear hv E
      go_wp2_with fail
      refine (IT.out _ F1).mono ?_
      rintro e w2 ⟨rfl, b2⟩
      go_wp2
      go_ret
      exact ⟨rfl, F1.trans b2⟩
    · have E := hid (show (#[110, 117, 108, 108] : Array UInt8) = X by rw [← EX.out]; unfold encS; rw [hv]; rfl)
      clear hv
      go_wp2
      go_ret
      rw [E.out]
      exact ⟨rfl, F1⟩
end Go.Proofs.YtlmiadeaiiehaaaDoor

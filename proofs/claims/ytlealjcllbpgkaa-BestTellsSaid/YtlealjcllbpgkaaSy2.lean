/- Sorting routes as they stand: exchanges of stretches, turns, merging by turns. Over a program that bears this program's bodies of package slices: what they want of it is in 'SLays', and 'sLays' says that this program has it. -/
import Derived.Test.YtlealjcllbpgkaaBt3
import Derived.Shelf.SlSortCmp.ReverseRangeK
namespace Go.Proofs.Ytlealjcllbpgkaa
open Go Go.Proofs Go.Shelf Go.RowKit Go.Lib Go.Sort
/-- What the bodies want of a program. -/
structure SLays (P : Program) (k : Nat) : Prop where
  mixed : P.follows .mixedOrders = true
  swap : P.funcs[39]? = some Try.f39
  rot : P.funcs[38]? = some Try.f38
  sym : P.funcs[37]? = some Try.f37
  t0 : P.underlying 0 = some (TypeDesc.tuple #[])
  a0 : ∀ w, (isAgg 0).run P w = .ok false w
  z0 : ∀ w, (Go.sizeOf 0).run P w = .ok 1 w
  v0 : ∀ w, (zeroValue 0).run P w = .ok (Value.tuple #[]) w
  t3 : P.underlying 3 = some (TypeDesc.int IntKind.i64)
  a3 : ∀ w, (isAgg 3).run P w = .ok false w
  z3 : ∀ w, (Go.sizeOf 3).run P w = .ok 1 w
  v3 : ∀ w, (zeroValue 3).run P w = .ok (Value.int IntKind.i64 0) w
  t4 : P.underlying 4 = some TypeDesc.bool
  a4 : ∀ w, (isAgg 4).run P w = .ok false w
  z4 : ∀ w, (Go.sizeOf 4).run P w = .ok 1 w
  v4 : ∀ w, (zeroValue 4).run P w = .ok (Value.bool false) w
  t62 : P.underlying 62 = some (TypeDesc.int IntKind.u64)
  a62 : ∀ w, (isAgg 62).run P w = .ok false w
  z62 : ∀ w, (Go.sizeOf 62).run P w = .ok 1 w
  v62 : ∀ w, (zeroValue 62).run P w = .ok (Value.int IntKind.u64 0) w
  t22 : P.underlying 22 = some (TypeDesc.slice 31)
  a22 : ∀ w, (isAgg 22).run P w = .ok false w
  z22 : ∀ w, (Go.sizeOf 22).run P w = .ok 1 w
  v22 : ∀ w, (zeroValue 22).run P w = .ok (Value.slice none 0 0) w
  t39 : P.underlying 39 = some (TypeDesc.func #[31, 31] #[3] false)
  a39 : ∀ w, (isAgg 39).run P w = .ok false w
  z39 : ∀ w, (Go.sizeOf 39).run P w = .ok 1 w
  v39 : ∀ w, (zeroValue 39).run P w = .ok (Value.nilFunc) w
  aE : ∀ w, (isAgg 31).run P w = .ok true w
  zE : ∀ w, (Go.sizeOf 31).run P w = .ok k w
theorem sLays : SLays Try.prog 8 := {
  mixed := by kernel_rfl
  swap := Try.func39
  rot := Try.func38
  sym := Try.func37
  t0 := Try.underlying0
  a0 := Try.isAgg0
  z0 := Try.sizeOf0
  v0 := Try.zeroValue0
  t3 := Try.underlying3
  a3 := Try.isAgg3
  z3 := Try.sizeOf3
  v3 := Try.zeroValue3
  t4 := Try.underlying4
  a4 := Try.isAgg4
  z4 := Try.sizeOf4
  v4 := Try.zeroValue4
  t62 := Try.underlying62
  a62 := Try.isAgg62
  z62 := Try.sizeOf62
  v62 := Try.zeroValue62
  t22 := Try.underlying22
  a22 := Try.isAgg22
  z22 := Try.sizeOf22
  v22 := Try.zeroValue22
  t39 := Try.underlying39
  a39 := Try.isAgg39
  z39 := Try.sizeOf39
  v39 := Try.zeroValue39
  aE := Try.isAgg31
  zE := Try.sizeOf31 }
section
variable {P : Program} {α : Type} [Inhabited α]
set_option maxHeartbeats 4000000 in
set_option maxRecDepth 1000000 in
theorem swapRangeP (k : Nat) (L : SLays P k) (enc : α → List Value) (g : Nat) (blk off cap a b n N : Nat) (d0 d : Array α) (w0 w : World)
    (R : RowK enc k w0 blk off d0) (hs : d0.size = d.size) (hN : d.size = N) (S : SWK enc k w0 blk off d w) (hab : a + n ≤ b) (hb : b + n ≤ d.size) (hsz : d.size ≤ 4096) :
    Calls P 39 #[.slice (some ⟨blk, off, none⟩) N cap, .int .i64 a, .int .i64 b, .int .i64 n, .func (.func g) #[] #[]] w fun e w' => e = .returned (.tuple #[]) ∧ ∃ d', SwrOf d d' a b n ∧ SWK enc k w0 blk off d' w' := by
  subst hN
  have mixed := L.mixed; have aE := L.aE; have zE := L.zE; have t0 := L.t0; have a0 := L.a0; have z0 := L.z0; have v0 := L.v0; have t3 := L.t3; have a3 := L.a3; have z3 := L.z3; have v3 := L.v3; have t4 := L.t4; have a4 := L.a4; have z4 := L.z4; have v4 := L.v4; have t62 := L.t62; have a62 := L.a62; have z62 := L.z62; have v62 := L.v62; have t22 := L.t22; have a22 := L.a22; have z22 := L.z22; have v22 := L.v22; have t39 := L.t39; have a39 := L.a39; have z39 := L.z39; have v39 := L.v39
  have u22 := run_underlying L.t22; have u39 := run_underlying L.t39; have u3 := run_underlying L.t3; have u62 := run_underlying L.t62
  have eS : ∀ args w, (callFunc 39 args).run P w = .ok (.enter 39 args) w := enters_of L.swap (by kernel_rfl) rfl; have eR : ∀ args w, (callFunc 38 args).run P w = .ok (.enter 38 args) w := enters_of L.rot (by kernel_rfl) rfl; have eM : ∀ args w, (callFunc 37 args).run P w = .ok (.enter 37 args) w := enters_of L.sym (by kernel_rfl) rfl
  have FG := L.swap
  clear L
  have S0 : Aside (SWK enc k w0 blk off d w) := S
  clear S
  go_enter FG, Try.ntmps39
  go_wp2
  go_loopg [10] n (fun kx s wr => ∃ (i : Nat) (dk : Array α), s = .int .i64 i ∧ i ≤ n ∧ n - i ≤ kx ∧ Aside (SwrOf d dk a b i) ∧ Aside (SWK enc k w0 blk off dk wr))
  case atStart => exact ⟨0, d, rfl, by omega, by omega, SwrOf.start d a b, S0⟩
  case round =>
    clear S0
    obtain ⟨i, dk, rfl, hi, hkx, HW, S1⟩ := hrel
    have hds : dk.size = d.size := HW.out.size
    by_cases hlt : i < n
    · have hltz : (i : Int) < (n : Int) := by omega
      go_wp2_with fail
      have wa : IntKind.i64.wrap ((a : Int) + (i : Int)) = ((a + i : Nat) : Int) := by rw [IntKind.wrap_i64]; omega
      have wb : IntKind.i64.wrap ((b : Int) + (i : Int)) = ((b + i : Nat) : Int) := by rw [IntKind.wrap_i64]; omega
      obtain ⟨x, hx⟩ : ∃ x, a + i = x := ⟨_, rfl⟩
      obtain ⟨y, hy⟩ : ∃ y, b + i = y := ⟨_, rfl⟩
      rw [hx] at wa
      rw [hy] at wb
      have ea44 : ((x : Nat) : Int).toNat = x := by omega
      have pa44 : (0 : Int) ≤ ((x : Nat) : Int) := by omega
      have ba44 : ((x : Nat) : Int) < (d.size : Int) := by omega
      have ec44 : ((y : Nat) : Int).toNat = y := by omega
      have pc44 : (0 : Int) ≤ ((y : Nat) : Int) := by omega
      have bc44 : ((y : Nat) : Int) < (d.size : Int) := by omega
      have S2 : Aside (SWK enc k w0 blk off (swp dk x y) ((wr.drew.setCells blk (off + x * k) (enc dk[y]!)).setCells blk (off + y * k) (enc dk[x]!))) := S1.out.swapped R x y (by omega) (by omega)
      have l44a := S1.out.ld1 R (by omega) P x (by omega)
      have l44b := S1.out.ld1 R (by omega) P y (by omega)
      have s44a := S1.out.st1 R (by omega) P x (by omega) dk[y]!
      have s44b := S1.out.st2 R (by omega) P x y (by omega) (by omega) dk[y]! dk[x]!
      have n44a : (enc dk[x]!).length = k := R.hk _
      have n44b : (enc dk[y]!).length = k := R.hk _
      generalize enc dk[x]! = cI44 at S2 l44a s44b n44a
      generalize enc dk[y]! = cJ44 at S2 l44b s44a s44b n44b
      have HW2 : Aside (SwrOf d (swp dk x y) a b (i + 1)) := by rw [← hx, ← hy]; exact HW.out.step (by omega) (by omega)
      clear S1 HW hx hy
      go_wp2_with fail
      go_big_region_o
      clear l44a l44b s44a s44b
      generalize (wr.drew.setCells blk (off + x * k) cJ44).setCells blk (off + y * k) cI44 = w2 at S2 ⊢
      go_wp2
      go_roundg (n - (i + 1))
      case measure => omega
      case rel => exact ⟨i + 1, swp dk x y, by go_num, by omega, Nat.le_refl _, HW2, S2⟩
    · have hltz : ¬ (i : Int) < (n : Int) := by omega
      have hin : Aside (i = n) := (by omega : i = n)
      go_wp2
      go_end0
      obtain rfl := hin.out
      exact ⟨rfl, dk, HW.out, S1.out⟩
set_option maxHeartbeats 4000000 in
set_option maxRecDepth 1000000 in
theorem rotateP (k : Nat) (L : SLays P k) (enc : α → List Value) (g : Nat) (blk off cap a m b N : Nat) (d0 d : Array α) (w0 w : World)
    (R : RowK enc k w0 blk off d0) (hs : d0.size = d.size) (hN : d.size = N) (S : SWK enc k w0 blk off d w) (ham : a < m) (hmb : m < b) (hb : b ≤ d.size) (hsz : d.size ≤ 4096) :
    Calls P 38 #[.slice (some ⟨blk, off, none⟩) N cap, .int .i64 a, .int .i64 m, .int .i64 b, .func (.func g) #[] #[]] w fun e w' => e = .returned (.tuple #[]) ∧ ∃ d', RotOf d d' a m b ∧ SWK enc k w0 blk off d' w' := by
  have mixed := L.mixed; have aE := L.aE; have zE := L.zE; have t0 := L.t0; have a0 := L.a0; have z0 := L.z0; have v0 := L.v0; have t3 := L.t3; have a3 := L.a3; have z3 := L.z3; have v3 := L.v3; have t4 := L.t4; have a4 := L.a4; have z4 := L.z4; have v4 := L.v4; have t62 := L.t62; have a62 := L.a62; have z62 := L.z62; have v62 := L.v62; have t22 := L.t22; have a22 := L.a22; have z22 := L.z22; have v22 := L.v22; have t39 := L.t39; have a39 := L.a39; have z39 := L.z39; have v39 := L.v39
  have u22 := run_underlying L.t22; have u39 := run_underlying L.t39; have u3 := run_underlying L.t3; have u62 := run_underlying L.t62
  have eS : ∀ args w, (callFunc 39 args).run P w = .ok (.enter 39 args) w := enters_of L.swap (by kernel_rfl) rfl; have eR : ∀ args w, (callFunc 38 args).run P w = .ok (.enter 38 args) w := enters_of L.rot (by kernel_rfl) rfl; have eM : ∀ args w, (callFunc 37 args).run P w = .ok (.enter 37 args) w := enters_of L.sym (by kernel_rfl) rfl
  have FG := L.rot
  have S0 : Aside (SWK enc k w0 blk off d w) := S
  have HL : Aside (SLays P k) := L
  clear S L
  go_enter FG, Try.ntmps38
  have w1 : IntKind.i64.wrap ((m : Int) - (a : Int)) = ((m - a : Nat) : Int) := by rw [IntKind.wrap_i64]; omega
  have w2 : IntKind.i64.wrap ((b : Int) - (m : Int)) = ((b - m : Nat) : Int) := by rw [IntKind.wrap_i64]; omega
  go_wp2
  go_loopg [10, 11] (b - a) (fun kx s10 s11 wr => ∃ (i j : Nat) (dk : Array α), s10 = .int .i64 i ∧ s11 = .int .i64 j ∧ 1 ≤ i ∧ 1 ≤ j ∧ a + i ≤ m ∧ m + j ≤ b ∧ i + j ≤ kx ∧ dk.size = d.size ∧ Aside (∀ d2, RotOf dk d2 (m - i) m (m + j) → RotOf d d2 a m b) ∧ Aside (SWK enc k w0 blk off dk wr))
  case atStart => exact ⟨m - a, b - m, d, rfl, rfl, by omega, by omega, by omega, by omega, by omega, rfl, (fun d2 h => by rw [show m - (m - a) = a by omega, show m + (b - m) = b by omega] at h; exact h : ∀ d2, RotOf d d2 (m - (m - a)) m (m + (b - m)) → RotOf d d2 a m b), S0⟩
  case round =>
    clear S0 w1 w2
    obtain ⟨i, j, dk, rfl, rfl, hi, hj, hai, hjb, hkx, hds, HR, S1⟩ := hrel
    have w1 : IntKind.i64.wrap ((m : Int) - (i : Int)) = ((m - i : Nat) : Int) := by rw [IntKind.wrap_i64]; omega
    by_cases e1 : i = j
    · subst e1
      have HC := hide (swapRangeP k HL.out enc g blk off cap (m - i) m i N d0 dk w0 wr R (by omega) (by omega) S1.out (by omega) (by omega) (by omega))
      go_wp2_with fail
      refine HC.out.mono ?_
      rintro e w' ⟨rfl, d1, hw, hs1⟩
      go_wp2_with fail
      go_end0
      exact ⟨rfl, d1, HR.out d1 (RotOf.same hw (by omega)), hs1⟩
    · by_cases e2 : j < i
      · have e3 : (j : Int) < (i : Int) := by omega
        have e4 : ((i : Int) == (j : Int)) = false := by simp; omega
        have w3 : IntKind.i64.wrap ((i : Int) - (j : Int)) = ((i - j : Nat) : Int) := by rw [IntKind.wrap_i64]; omega
        have HC := hide (swapRangeP k HL.out enc g blk off cap (m - i) m j N d0 dk w0 wr R (by omega) (by omega) S1.out (by omega) (by omega) (by omega))
        go_wp2_with fail
        refine HC.out.mono ?_
        rintro e w' ⟨rfl, d1, hw, hs1⟩
        go_wp2_with fail
        go_roundg (i - j + j)
        case measure => omega
        case rel => exact ⟨i - j, j, d1, rfl, rfl, by omega, hj, by omega, hjb, Nat.le_refl _, hw.size.trans hds, (fun d2 r => HR.out d2 (RotOf.left hw (by omega) e2 r) : ∀ d2, RotOf d1 d2 (m - (i - j)) m (m + j) → RotOf d d2 a m b), hs1⟩
      · have e3 : (i : Int) < (j : Int) := by omega
        have e4 : ((i : Int) == (j : Int)) = false := by simp; omega
        have w3 : IntKind.i64.wrap ((j : Int) - (i : Int)) = ((j - i : Nat) : Int) := by rw [IntKind.wrap_i64]; omega
        have w4 : IntKind.i64.wrap ((m : Int) + (j : Int)) = (m : Int) + (j : Int) := by rw [IntKind.wrap_i64]; omega
        have w5 : IntKind.i64.wrap ((m : Int) + (j : Int) - (i : Int)) = (m : Int) + (j : Int) - (i : Int) := by rw [IntKind.wrap_i64]; omega
        have hC := swapRangeP k HL.out enc g blk off cap (m - i) (m + j - i) i N d0 dk w0 wr R (by omega) (by omega) S1.out (by omega) (by omega) (by omega)
        rw [show ((m + j - i : Nat) : Int) = (m : Int) + (j : Int) - (i : Int) by omega] at hC
        have HC := hide hC
        clear hC
        go_wp2_with ((go_at_fn 39; refine HC.out.mono ?_; rintro e w' ⟨rfl, d1, hw, hs1⟩))
        go_roundg (i + (j - i))
        case measure => omega
        case rel => exact ⟨i, j - i, d1, rfl, rfl, hi, by omega, hai, by omega, Nat.le_refl _, hw.size.trans hds, (fun d2 r => HR.out d2 (RotOf.right hw (by omega) (by omega) r) : ∀ d2, RotOf d1 d2 (m - i) m (m + (j - i)) → RotOf d d2 a m b), hs1⟩
macro "go_ret0" : tactic => `(tactic| ((try simp only [Exit.inBlock, Exit.then]); refine bodyPost_ret (results_none rfl _ _ _) rfl ?_))
omit [Inhabited α] in
theorem w_add (x y : Nat) (h : x + y ≤ 100000) : IntKind.i64.wrap ((x : Int) + (y : Int)) = (x : Int) + (y : Int) := by rw [IntKind.wrap_i64]; omega
omit [Inhabited α] in
theorem w_addN (x y z : Nat) (hz : x + y = z) (h : z ≤ 100000) : IntKind.i64.wrap ((x : Int) + (y : Int)) = (z : Int) := by rw [IntKind.wrap_i64]; omega
omit [Inhabited α] in
theorem w_subN (x y z : Nat) (hz : x = y + z) (h : x ≤ 100000) : IntKind.i64.wrap ((x : Int) - (y : Int)) = (z : Int) := by rw [IntKind.wrap_i64]; omega
omit [Inhabited α] in
theorem w_subO (x y : Nat) (hz : x = y + 1) (h : x ≤ 100000) : IntKind.i64.wrap ((x : Int) - (y : Int)) = 1 := by rw [IntKind.wrap_i64]; omega
omit [Inhabited α] in
theorem w_sub1 (x z : Nat) (hz : x = z + 1) (h : x ≤ 100000) : IntKind.i64.wrap ((x : Int) - 1) = (z : Int) := by rw [IntKind.wrap_i64]; omega
omit [Inhabited α] in
theorem w_add1 (x : Nat) (h : x ≤ 100000) : IntKind.i64.wrap ((x : Int) + 1) = (x : Int) + 1 := by rw [IntKind.wrap_i64]; omega
omit [Inhabited α] in
theorem w_add1N (x z : Nat) (hz : x + 1 = z) (h : z ≤ 100000) : IntKind.i64.wrap ((x : Int) + 1) = (z : Int) := by rw [IntKind.wrap_i64]; omega
set_option maxHeartbeats 16000000 in
set_option maxRecDepth 1000000 in
theorem symMergeA (k : Nat) (L : SLays P k) (enc : α → List Value) (cf : α → α → Int) (g : Nat) (eg : ∀ args w, (callFunc g args).run P w = .ok (.enter g args) w) (hS : SwoL (ltOf cf)) (blk off cap N : Nat) (d0 : Array α) (w0 : World)
    (R : RowK enc k w0 blk off d0) (hcmp : CmpLays P g #[] enc k cf blk off d0.size w0) (hN : d0.size = N) (hsz : N ≤ 4096) (a m b : Nat) (d : Array α) (w : World) (hdN : d.size = N) (S : SWK enc k w0 blk off d w) (ham : a < m) (hmb : m < b) (hbN : b ≤ N) (hs1 : SrtIn (ltOf cf) d a m) (hs2 : SrtIn (ltOf cf) d m b) (hA : m = a + 1) :
    Calls P 37 #[.slice (some ⟨blk, off, none⟩) N cap, .int .i64 a, .int .i64 m, .int .i64 b, .func (.func g) #[] #[]] w fun e w' => e = .returned (.tuple #[]) ∧ ∃ d', MOf d d' a b ∧ SrtIn (ltOf cf) d' a b ∧ SWK enc k w0 blk off d' w' := by
  have mixed := L.mixed; have aE := L.aE; have zE := L.zE; have t0 := L.t0; have a0 := L.a0; have z0 := L.z0; have v0 := L.v0; have t3 := L.t3; have a3 := L.a3; have z3 := L.z3; have v3 := L.v3; have t4 := L.t4; have a4 := L.a4; have z4 := L.z4; have v4 := L.v4; have t62 := L.t62; have a62 := L.a62; have z62 := L.z62; have v62 := L.v62; have t22 := L.t22; have a22 := L.a22; have z22 := L.z22; have v22 := L.v22; have t39 := L.t39; have a39 := L.a39; have z39 := L.z39; have v39 := L.v39
  have u22 := run_underlying L.t22; have u39 := run_underlying L.t39; have u3 := run_underlying L.t3; have u62 := run_underlying L.t62
  have eS : ∀ args w, (callFunc 39 args).run P w = .ok (.enter 39 args) w := enters_of L.swap (by kernel_rfl) rfl; have eR : ∀ args w, (callFunc 38 args).run P w = .ok (.enter 38 args) w := enters_of L.rot (by kernel_rfl) rfl; have eM : ∀ args w, (callFunc 37 args).run P w = .ok (.enter 37 args) w := enters_of L.sym (by kernel_rfl) rfl
  have FG := L.sym
  have S0 : Aside (SWK enc k w0 blk off d w) := S
  have HL : Aside (SLays P k) := L
  have HC : Aside (CmpLays P g #[] enc k cf blk off d0.size w0) := hcmp
  have H1 : Aside (SrtIn (ltOf cf) d a m) := hs1
  have H2 : Aside (SrtIn (ltOf cf) d m b) := hs2
  have HS := hide hS
  clear S L hcmp hs1 hs2 hS
  have HA := hide hA
  have w1 : IntKind.i64.wrap ((m : Int) - (a : Int)) = 1 := w_subO m a (by omega) (by omega)
  clear hA
  go_enter FG, Try.ntmps37
  go_wp2_with fail
  go_loopg [10, 11] (b - m) (fun kx s10 s11 wr => ∃ (i j : Nat), s10 = .int .i64 i ∧ s11 = .int .i64 j ∧ m ≤ i ∧ i ≤ j ∧ j ≤ b ∧ j - i ≤ kx ∧ Aside (i = a + 1 ∨ ltOf cf d[i - 1]! d[a]! = true) ∧ Aside (j = b ∨ ltOf cf d[j]! d[a]! = false) ∧ Aside (SWK enc k w0 blk off d wr))
  case atStart => exact ⟨m, b, rfl, rfl, by omega, by omega, by omega, by omega, Or.inl HA.out, Or.inl rfl, S0⟩
  case round =>
    clear S0
    obtain ⟨i, j, rfl, rfl, hmi, hij, hjb, hkx, P1, P2, S1⟩ := hrel
    by_cases hlt : i < j
    · have hltz : (i : Int) < (j : Int) := by omega
      obtain ⟨h, hh⟩ : ∃ h, (i + j) / 2 = h := ⟨_, rfl⟩
      have wa : IntKind.i64.wrap ((i : Int) + (j : Int)) = (i : Int) + (j : Int) := w_add i j (by omega)
      go_upto_region 5 with (fail)
      rw [show ((i : Int) + (j : Int)) / 2 = (h : Int) by omega]
      have hh1 : i ≤ h ∧ h < j := by omega
      clear hh wa w1
      have c1a : (((h) : Nat) : Int).toNat = h := by omega
      have c1b : (0 : Int) ≤ ((h : Nat) : Int) := by omega
      have c1c : ((h : Nat) : Int) < (N : Int) := by omega
      have c2a : (((a) : Nat) : Int).toNat = a := by omega
      have c2b : (0 : Int) ≤ ((a : Nat) : Int) := by omega
      have c2c : ((a : Nat) : Int) < (N : Int) := by omega
      have lp := S1.out.ld R (by omega) P h (by omega)
      have lq := S1.out.ld R (by omega) P a (by omega)
      obtain ⟨xp, hxp⟩ : ∃ x, d[h]! = x := ⟨_, rfl⟩
      obtain ⟨xq, hxq⟩ : ∃ x, d[a]! = x := ⟨_, rfl⟩
      rw [hxp] at lp
      rw [hxq] at lq
      have n1 : (enc xp).length = k := R.hk _
      have n2 : (enc xq).length = k := R.hk _
      have hcg : ∀ n' os', Calls P g #[.agg (enc xp).toArray, .agg (enc xq).toArray] (Go.Sort.grow (wr.drewN n') os') fun e w' => e = .returned (.int .i64 (cf xp xq)) ∧ ∃ q os'', w' = Go.Sort.grow ((Go.Sort.grow (wr.drewN n') os').drewN q) os'' := fun n' os' => by
        have := S1.out.cmp HC.out (by omega) xp xq n' os'
        rwa [Array.append_empty] at this
      have HXP := hide hxp
      have HXQ := hide hxq
      clear hxp hxq
      by_cases hlv : cf xp xq < 0
      · have HV := hide (show ltOf cf d[h + 1 - 1]! d[a]! = true by rw [Nat.add_sub_cancel, HXP.out, HXQ.out]; exact decide_eq_true hlv)
        go_quiet_grown (first | (go_at_fn g; refine Calls.grown_of (hcg _ _)))
        have wh : IntKind.i64.wrap ((h : Int) + 1) = (h : Int) + 1 := w_add1 h (by omega)
        go_wp2_with fail
        go_roundg (j - (h + 1))
        case measure => omega
        case rel => exact ⟨h + 1, j, by go_num, rfl, by omega, by omega, hjb, Nat.le_refl _, Or.inr HV.out, P2, S1.out.grown nq osq⟩
      · have HV := hide (show ltOf cf d[h]! d[a]! = false by rw [HXP.out, HXQ.out]; exact decide_eq_false hlv)
        go_quiet_grown (first | (go_at_fn g; refine Calls.grown_of (hcg _ _)))
        go_wp2_with fail
        go_roundg (h - i)
        case measure => omega
        case rel => exact ⟨i, h, rfl, rfl, hmi, by omega, by omega, Nat.le_refl _, P1, Or.inr HV.out, S1.out.grown nq osq⟩
    · have hltz : ¬ (i : Int) < (j : Int) := by omega
      obtain ⟨i1, hi1⟩ : ∃ i1, i = i1 + 1 := ⟨i - 1, by omega⟩
      have HI := hide hi1
      have P3 := hide (show i = b ∨ ltOf cf d[i]! d[a]! = false by rw [show i = j by omega]; exact P2.out)
      have wi : IntKind.i64.wrap ((i : Int) - 1) = (i1 : Int) := w_sub1 i i1 (by omega) (by omega)
      have hai1 : a ≤ i1 := by have := HA.out; omega
      clear hi1 P2 w1
      go_wp2_with fail
      go_loopg [13] (i1 - a) (fun kx s wr2 => ∃ (q : Nat) (dk : Array α), s = .int .i64 q ∧ a ≤ q ∧ q ≤ i1 ∧ i1 - q ≤ kx ∧ dk.size = N ∧ Aside (RotOf d dk a (a + 1) (q + 1)) ∧ Aside (SWK enc k w0 blk off dk wr2))
      case atStart => exact ⟨a, d, rfl, Nat.le_refl _, by omega, by omega, hdN, RotOf.none_r d (by omega), S1⟩
      case round =>
        clear S1
        obtain ⟨q, dk, rfl, hq1, hq2, hkx2, hds, HW, S1⟩ := hrel
        by_cases hlt2 : q < i1
        · have hltz2 : (q : Int) < (i1 : Int) := by omega
          have hiN : i1 + 1 ≤ N := by have := HI.out; omega
          obtain ⟨y, hy⟩ : ∃ y, q + 1 = y := ⟨_, rfl⟩
          have wy : IntKind.i64.wrap ((q : Int) + 1) = (y : Int) := w_add1N q y (by omega) (by omega)
          go_wp2_with fail
          have ea44 : ((q : Nat) : Int).toNat = q := by omega
          have pa44 : (0 : Int) ≤ ((q : Nat) : Int) := by omega
          have ba44 : ((q : Nat) : Int) < (N : Int) := by have := HI.out; omega
          have ec44 : ((y : Nat) : Int).toNat = y := by omega
          have pc44 : (0 : Int) ≤ ((y : Nat) : Int) := by omega
          have bc44 : ((y : Nat) : Int) < (N : Int) := by have := HI.out; omega
          have S2 : Aside (SWK enc k w0 blk off (swp dk q y) ((wr.drew.setCells blk (off + q * k) (enc dk[y]!)).setCells blk (off + y * k) (enc dk[q]!))) := S1.out.swapped R q y (by omega) (by omega)
          have l44a := S1.out.ld1 R (by omega) P q (by omega)
          have l44b := S1.out.ld1 R (by omega) P y (by omega)
          have s44a := S1.out.st1 R (by omega) P q (by omega) dk[y]!
          have s44b := S1.out.st2 R (by omega) P q y (by omega) (by omega) dk[y]! dk[q]!
          have n44a : (enc dk[q]!).length = k := R.hk _
          have n44b : (enc dk[y]!).length = k := R.hk _
          generalize enc dk[q]! = cI44 at S2 l44a s44b n44a
          generalize enc dk[y]! = cJ44 at S2 l44b s44a s44b n44b
          have HW2 : Aside (RotOf d (swp dk q y) a (a + 1) (q + 2)) := by rw [← hy]; exact HW.out.stepUp (by omega) (by omega)
          have HY := hide hy
          clear S1 HW hy
          go_wp2_with fail
          go_big_region_o
          clear l44a l44b s44a s44b
          generalize (wr.drew.setCells blk (off + q * k) cJ44).setCells blk (off + y * k) cI44 = w2 at S2 ⊢
          go_wp2_with fail
          go_roundg (i1 - y)
          case measure => have := HY.out; omega
          case rel => exact ⟨y, swp dk q y, rfl, by have := HY.out; omega, by have := HY.out; omega, Nat.le_refl _, by rw [size_swp]; exact hds, (by have h9 := HW2.out; rw [show q + 2 = y + 1 by have := HY.out; omega] at h9; exact h9 : RotOf d (swp dk q y) a (a + 1) (y + 1)), S2⟩
        · have hltz2 : ¬ (q : Int) < (i1 : Int) := by omega
          have hqi := hide (show q = i1 by omega)
          go_wp2_with fail
          go_ret0
          have hi2 := HI.out
          have hR : RotOf d dk a (a + 1) i := by rw [hi2, ← hqi.out]; exact HW.out
          obtain ⟨hM, hSo⟩ := ins_left HS.out (by rw [← HA.out]; exact H2.out) (by omega) (by omega) P1.out P3.out hR
          exact ⟨rfl, dk, hM, hSo, S1.out⟩
set_option maxHeartbeats 16000000 in
set_option maxRecDepth 1000000 in
theorem symMergeB (k : Nat) (L : SLays P k) (enc : α → List Value) (cf : α → α → Int) (g : Nat) (eg : ∀ args w, (callFunc g args).run P w = .ok (.enter g args) w) (hS : SwoL (ltOf cf)) (blk off cap N : Nat) (d0 : Array α) (w0 : World)
    (R : RowK enc k w0 blk off d0) (hcmp : CmpLays P g #[] enc k cf blk off d0.size w0) (hN : d0.size = N) (hsz : N ≤ 4096) (a m b : Nat) (d : Array α) (w : World) (hdN : d.size = N) (S : SWK enc k w0 blk off d w) (ham : a < m) (hmb : m < b) (hbN : b ≤ N) (hs1 : SrtIn (ltOf cf) d a m) (hs2 : SrtIn (ltOf cf) d m b) (hA : ¬ m = a + 1) (hB : b = m + 1) :
    Calls P 37 #[.slice (some ⟨blk, off, none⟩) N cap, .int .i64 a, .int .i64 m, .int .i64 b, .func (.func g) #[] #[]] w fun e w' => e = .returned (.tuple #[]) ∧ ∃ d', MOf d d' a b ∧ SrtIn (ltOf cf) d' a b ∧ SWK enc k w0 blk off d' w' := by
  have mixed := L.mixed; have aE := L.aE; have zE := L.zE; have t0 := L.t0; have a0 := L.a0; have z0 := L.z0; have v0 := L.v0; have t3 := L.t3; have a3 := L.a3; have z3 := L.z3; have v3 := L.v3; have t4 := L.t4; have a4 := L.a4; have z4 := L.z4; have v4 := L.v4; have t62 := L.t62; have a62 := L.a62; have z62 := L.z62; have v62 := L.v62; have t22 := L.t22; have a22 := L.a22; have z22 := L.z22; have v22 := L.v22; have t39 := L.t39; have a39 := L.a39; have z39 := L.z39; have v39 := L.v39
  have u22 := run_underlying L.t22; have u39 := run_underlying L.t39; have u3 := run_underlying L.t3; have u62 := run_underlying L.t62
  have eS : ∀ args w, (callFunc 39 args).run P w = .ok (.enter 39 args) w := enters_of L.swap (by kernel_rfl) rfl; have eR : ∀ args w, (callFunc 38 args).run P w = .ok (.enter 38 args) w := enters_of L.rot (by kernel_rfl) rfl; have eM : ∀ args w, (callFunc 37 args).run P w = .ok (.enter 37 args) w := enters_of L.sym (by kernel_rfl) rfl
  have FG := L.sym
  have S0 : Aside (SWK enc k w0 blk off d w) := S
  have HL : Aside (SLays P k) := L
  have HC : Aside (CmpLays P g #[] enc k cf blk off d0.size w0) := hcmp
  have H1 : Aside (SrtIn (ltOf cf) d a m) := hs1
  have H2 : Aside (SrtIn (ltOf cf) d m b) := hs2
  have HS := hide hS
  clear S L hcmp hs1 hs2 hS
  obtain ⟨z1, hz1⟩ : ∃ z1, m - a = z1 := ⟨_, rfl⟩
  have w1 : IntKind.i64.wrap ((m : Int) - (a : Int)) = (z1 : Int) := w_subN m a z1 (by omega) (by omega)
  have hz1a : ¬ ((z1 : Int) = 1) := by omega
  have hz1b : ((z1 : Int) == 1) = false := by simp; omega
  have HB := hide hB
  have w2 : IntKind.i64.wrap ((b : Int) - (m : Int)) = 1 := w_subO b m (by omega) (by omega)
  have hmN : m + 1 ≤ N := by omega
  clear hA hB hz1
  go_enter FG, Try.ntmps37
  go_wp2_with fail
  go_loopg [14, 15] (m - a) (fun kx s10 s11 wr => ∃ (i j : Nat), s10 = .int .i64 i ∧ s11 = .int .i64 j ∧ a ≤ i ∧ i ≤ j ∧ j ≤ m ∧ j - i ≤ kx ∧ Aside (i = a ∨ ltOf cf d[m]! d[i - 1]! = false) ∧ Aside (j = m ∨ ltOf cf d[m]! d[j]! = true) ∧ Aside (SWK enc k w0 blk off d wr))
  case atStart => exact ⟨a, m, rfl, rfl, by omega, by omega, by omega, by omega, Or.inl rfl, Or.inl rfl, S0⟩
  case round =>
    clear S0
    obtain ⟨i, j, rfl, rfl, hmi, hij, hjb, hkx, P1, P2, S1⟩ := hrel
    by_cases hlt : i < j
    · have hltz : (i : Int) < (j : Int) := by omega
      obtain ⟨h, hh⟩ : ∃ h, (i + j) / 2 = h := ⟨_, rfl⟩
      have wa : IntKind.i64.wrap ((i : Int) + (j : Int)) = (i : Int) + (j : Int) := w_add i j (by omega)
      go_upto_region 17 with (fail)
      rw [show ((i : Int) + (j : Int)) / 2 = (h : Int) by omega]
      have hh1 : i ≤ h ∧ h < j := by omega
      clear hh wa w1 w2
      have c1a : (((m) : Nat) : Int).toNat = m := by omega
      have c1b : (0 : Int) ≤ ((m : Nat) : Int) := by omega
      have c1c : ((m : Nat) : Int) < (N : Int) := by omega
      have c2a : (((h) : Nat) : Int).toNat = h := by omega
      have c2b : (0 : Int) ≤ ((h : Nat) : Int) := by omega
      have c2c : ((h : Nat) : Int) < (N : Int) := by omega
      have lp := S1.out.ld R (by omega) P m (by omega)
      have lq := S1.out.ld R (by omega) P h (by omega)
      obtain ⟨xp, hxp⟩ : ∃ x, d[m]! = x := ⟨_, rfl⟩
      obtain ⟨xq, hxq⟩ : ∃ x, d[h]! = x := ⟨_, rfl⟩
      rw [hxp] at lp
      rw [hxq] at lq
      have n1 : (enc xp).length = k := R.hk _
      have n2 : (enc xq).length = k := R.hk _
      have hcg : ∀ n' os', Calls P g #[.agg (enc xp).toArray, .agg (enc xq).toArray] (Go.Sort.grow (wr.drewN n') os') fun e w' => e = .returned (.int .i64 (cf xp xq)) ∧ ∃ q os'', w' = Go.Sort.grow ((Go.Sort.grow (wr.drewN n') os').drewN q) os'' := fun n' os' => by
        have := S1.out.cmp HC.out (by omega) xp xq n' os'
        rwa [Array.append_empty] at this
      have HXP := hide hxp
      have HXQ := hide hxq
      clear hxp hxq
      by_cases hlv : cf xp xq < 0
      · have HV := hide (show ltOf cf d[m]! d[h]! = true by rw [HXP.out, HXQ.out]; exact decide_eq_true hlv)
        go_quiet_grown (first | (go_at_fn g; refine Calls.grown_of (hcg _ _)))
        go_wp2_with fail
        go_roundg (h - i)
        case measure => omega
        case rel => exact ⟨i, h, rfl, rfl, hmi, by omega, by omega, Nat.le_refl _, P1, Or.inr HV.out, S1.out.grown nq osq⟩
      · have HV := hide (show ltOf cf d[m]! d[h + 1 - 1]! = false by rw [Nat.add_sub_cancel, HXP.out, HXQ.out]; exact decide_eq_false hlv)
        go_quiet_grown (first | (go_at_fn g; refine Calls.grown_of (hcg _ _)))
        have wh : IntKind.i64.wrap ((h : Int) + 1) = (h : Int) + 1 := w_add1 h (by omega)
        go_wp2_with fail
        go_roundg (j - (h + 1))
        case measure => omega
        case rel => exact ⟨h + 1, j, by go_num, rfl, by omega, by omega, hjb, Nat.le_refl _, Or.inr HV.out, P2, S1.out.grown nq osq⟩
    · have hltz : ¬ (i : Int) < (j : Int) := by omega
      have P3 := hide (show i = m ∨ ltOf cf d[m]! d[i]! = true by rw [show i = j by omega]; exact P2.out)
      clear P2 w1 w2
      go_wp2_with fail
      go_loopg [17] (m - i) (fun kx s wr2 => ∃ (q : Nat) (dk : Array α), s = .int .i64 q ∧ i ≤ q ∧ q ≤ m ∧ q - i ≤ kx ∧ dk.size = N ∧ Aside (RotOf d dk q m (m + 1)) ∧ Aside (SWK enc k w0 blk off dk wr2))
      case atStart => exact ⟨m, d, rfl, by omega, by omega, by omega, hdN, RotOf.none_l d (by omega), S1⟩
      case round =>
        clear S1
        obtain ⟨q, dk, rfl, hq1, hq2, hkx2, hds, HW, S1⟩ := hrel
        by_cases hlt2 : i < q
        · have hltz2 : (i : Int) < (q : Int) := by omega
          obtain ⟨y, hy⟩ : ∃ y, q = y + 1 := ⟨q - 1, by omega⟩
          have wy : IntKind.i64.wrap ((q : Int) - 1) = (y : Int) := w_sub1 q y (by omega) (by omega)
          have HY := hide hy
          have ea44 : ((q : Nat) : Int).toNat = q := by omega
          have pa44 : (0 : Int) ≤ ((q : Nat) : Int) := by omega
          have ba44 : ((q : Nat) : Int) < (N : Int) := by omega
          have ec44 : ((y : Nat) : Int).toNat = y := by omega
          have pc44 : (0 : Int) ≤ ((y : Nat) : Int) := by omega
          have bc44 : ((y : Nat) : Int) < (N : Int) := by omega
          have S2 : Aside (SWK enc k w0 blk off (swp dk q y) ((wr.drew.setCells blk (off + q * k) (enc dk[y]!)).setCells blk (off + y * k) (enc dk[q]!))) := S1.out.swapped R q y (by omega) (by omega)
          have l44a := S1.out.ld1 R (by omega) P q (by omega)
          have l44b := S1.out.ld1 R (by omega) P y (by omega)
          have s44a := S1.out.st1 R (by omega) P q (by omega) dk[y]!
          have s44b := S1.out.st2 R (by omega) P q y (by omega) (by omega) dk[y]! dk[q]!
          have n44a : (enc dk[q]!).length = k := R.hk _
          have n44b : (enc dk[y]!).length = k := R.hk _
          generalize enc dk[q]! = cI44 at S2 l44a s44b n44a
          generalize enc dk[y]! = cJ44 at S2 l44b s44a s44b n44b
          have HW2 : Aside (RotOf d (swp dk q y) y m (m + 1)) := by have hr := HW.out; rw [hy] at hr ⊢; exact hr.stepDown (by omega) (by omega)
          clear S1 HW hy
          go_wp2_with fail
          go_big_region_o
          clear l44a l44b s44a s44b
          generalize (wr.drew.setCells blk (off + q * k) cJ44).setCells blk (off + y * k) cI44 = w2 at S2 ⊢
          go_wp2_with fail
          go_roundg (y - i)
          case measure => have := HY.out; omega
          case rel => exact ⟨y, swp dk q y, rfl, by have := HY.out; omega, by have := HY.out; omega, Nat.le_refl _, by rw [size_swp]; exact hds, HW2, S2⟩
        · have hltz2 : ¬ (i : Int) < (q : Int) := by omega
          have hqi := hide (show q = i by omega)
          go_wp2_with fail
          go_ret0
          have hR : RotOf d dk i m (m + 1) := by rw [← hqi.out]; exact HW.out
          obtain ⟨hM, hSo⟩ := ins_right HS.out H1.out hmi (by omega) P1.out P3.out hR
          rw [HB.out]
          exact ⟨rfl, dk, hM, hSo, S1.out⟩
set_option maxHeartbeats 16000000 in
set_option maxRecDepth 1000000 in
theorem symMergeC (k : Nat) (L : SLays P k) (enc : α → List Value) (cf : α → α → Int) (g : Nat) (eg : ∀ args w, (callFunc g args).run P w = .ok (.enter g args) w) (hS : SwoL (ltOf cf)) (blk off cap N : Nat) (d0 : Array α) (w0 : World)
    (R : RowK enc k w0 blk off d0) (hcmp : CmpLays P g #[] enc k cf blk off d0.size w0) (hN : d0.size = N) (hsz : N ≤ 4096) (fuel : Nat) (ih : ∀ (a m b : Nat) (d : Array α) (w : World), b - a ≤ fuel → d.size = N → SWK enc k w0 blk off d w → a < m → m < b → b ≤ N → SrtIn (ltOf cf) d a m → SrtIn (ltOf cf) d m b →
    Calls P 37 #[.slice (some ⟨blk, off, none⟩) N cap, .int .i64 a, .int .i64 m, .int .i64 b, .func (.func g) #[] #[]] w fun e w' => e = .returned (.tuple #[]) ∧ ∃ d', MOf d d' a b ∧ SrtIn (ltOf cf) d' a b ∧ SWK enc k w0 blk off d' w') (a m b : Nat) (d : Array α) (w : World) (hfu : b - a ≤ fuel + 1) (hdN : d.size = N) (S : SWK enc k w0 blk off d w) (ham : a < m) (hmb : m < b) (hbN : b ≤ N) (hs1 : SrtIn (ltOf cf) d a m) (hs2 : SrtIn (ltOf cf) d m b) (hA : ¬ m = a + 1) (hB : ¬ b = m + 1) :
    Calls P 37 #[.slice (some ⟨blk, off, none⟩) N cap, .int .i64 a, .int .i64 m, .int .i64 b, .func (.func g) #[] #[]] w fun e w' => e = .returned (.tuple #[]) ∧ ∃ d', MOf d d' a b ∧ SrtIn (ltOf cf) d' a b ∧ SWK enc k w0 blk off d' w' := by
  have mixed := L.mixed; have aE := L.aE; have zE := L.zE; have t0 := L.t0; have a0 := L.a0; have z0 := L.z0; have v0 := L.v0; have t3 := L.t3; have a3 := L.a3; have z3 := L.z3; have v3 := L.v3; have t4 := L.t4; have a4 := L.a4; have z4 := L.z4; have v4 := L.v4; have t62 := L.t62; have a62 := L.a62; have z62 := L.z62; have v62 := L.v62; have t22 := L.t22; have a22 := L.a22; have z22 := L.z22; have v22 := L.v22; have t39 := L.t39; have a39 := L.a39; have z39 := L.z39; have v39 := L.v39
  have u22 := run_underlying L.t22; have u39 := run_underlying L.t39; have u3 := run_underlying L.t3; have u62 := run_underlying L.t62
  have eS : ∀ args w, (callFunc 39 args).run P w = .ok (.enter 39 args) w := enters_of L.swap (by kernel_rfl) rfl; have eR : ∀ args w, (callFunc 38 args).run P w = .ok (.enter 38 args) w := enters_of L.rot (by kernel_rfl) rfl; have eM : ∀ args w, (callFunc 37 args).run P w = .ok (.enter 37 args) w := enters_of L.sym (by kernel_rfl) rfl
  have FG := L.sym
  have S0 : Aside (SWK enc k w0 blk off d w) := S
  have HL : Aside (SLays P k) := L
  have HC : Aside (CmpLays P g #[] enc k cf blk off d0.size w0) := hcmp
  have H1 : Aside (SrtIn (ltOf cf) d a m) := hs1
  have H2 : Aside (SrtIn (ltOf cf) d m b) := hs2
  have HS := hide hS
  clear S L hcmp hs1 hs2 hS
  have IH := hide ih
  clear ih
  obtain ⟨z1, hz1⟩ : ∃ z1, m - a = z1 := ⟨_, rfl⟩
  have w1 : IntKind.i64.wrap ((m : Int) - (a : Int)) = (z1 : Int) := w_subN m a z1 (by omega) (by omega)
  have hz1a : ¬ ((z1 : Int) = 1) := by omega
  have hz1b : ((z1 : Int) == 1) = false := by simp; omega
  obtain ⟨z2, hz2⟩ : ∃ z2, b - m = z2 := ⟨_, rfl⟩
  have w2 : IntKind.i64.wrap ((b : Int) - (m : Int)) = (z2 : Int) := w_subN b m z2 (by omega) (by omega)
  have hz2a : ¬ ((z2 : Int) = 1) := by omega
  have hz2b : ((z2 : Int) == 1) = false := by simp; omega
  have hmab : a + 2 ≤ m ∧ m + 2 ≤ b := by omega
  clear hA hB hz1 hz2
  obtain ⟨mid, hmid⟩ : ∃ mid, (a + b) / 2 = mid := ⟨_, rfl⟩
  have wab : IntKind.i64.wrap ((a : Int) + (b : Int)) = (a : Int) + (b : Int) := w_add a b (by omega)
  go_enter FG, Try.ntmps37
  go_upto_region 25 with (fail)
  rw [show ((a : Int) + (b : Int)) / 2 = (mid : Int) by omega]
  have Hmid := hide hmid
  have hma : a + 2 ≤ mid := by omega
  have hmb2 : mid < b := by omega
  obtain ⟨nn, hnn⟩ : ∃ nn, mid + m = nn := ⟨_, rfl⟩
  have wn : IntKind.i64.wrap ((mid : Int) + (m : Int)) = (nn : Int) := w_addN mid m nn hnn (by omega)
  clear w1 w2 hz1a hz1b hz2a hz2b wab hmid
  have Hnn := hide hnn
  clear hnn
  go_upto_if 140 with (fail)
  obtain ⟨st, r, hst⟩ : ∃ st r, (mid < m ∧ st = mid + m - b ∧ r = mid) ∨ (m ≤ mid ∧ st = a ∧ r = m) := by
    by_cases h : mid < m
    · exact ⟨_, _, Or.inl ⟨h, rfl, rfl⟩⟩
    · exact ⟨_, _, Or.inr ⟨by omega, rfl, rfl⟩⟩
  have Hst := hide hst
  clear wn hst
  go_cut [20, 21] (fun vs vr wc => vs = .int .i64 st ∧ vr = .int .i64 r ∧ w = wc)
  case first =>
    as_aux_lemma =>
      by_cases hmm : mid < m
      · have f1 : (mid : Int) < (m : Int) := by omega
        have ws : IntKind.i64.wrap ((nn : Int) - (b : Int)) = (st : Int) := w_subN nn b st (by have := Hst.out; have := Hnn.out; have := Hmid.out; omega) (by have := Hnn.out; omega)
        have hr : mid = r := by have := Hst.out; omega
        have Hr := hide hr
        clear hr hmm
        go_wp2_with fail
        go_meet
        case rel => exact ⟨rfl, by rw [Hr.out], rfl⟩
      · have f1 : ¬ (mid : Int) < (m : Int) := by omega
        have f2 : (m : Int) ≤ (mid : Int) := by omega
        have Hr := hide (show a = st ∧ m = r by have := Hst.out; omega)
        clear hmm
        go_wp2_with fail
        go_meet
        case rel => exact ⟨by rw [Hr.out.1], by rw [Hr.out.2], rfl⟩
  obtain ⟨rfl, rfl, rfl⟩ := hcut
  obtain ⟨pp, hpp⟩ : ∃ pp, nn = pp + 1 := ⟨nn - 1, by have := Hnn.out; omega⟩
  have wp : IntKind.i64.wrap ((nn : Int) - 1) = (pp : Int) := w_sub1 nn pp hpp (by have := Hnn.out; omega)
  have Hpp := hide hpp
  have Hb := hide (show a ≤ st ∧ st ≤ r ∧ r ≤ mid ∧ r ≤ m by have := Hst.out; have := Hmid.out; omega)
  clear hpp
  go_wp2_with fail
  go_loopg [20, 21] (r - st) (fun kx s20 s21 wr => ∃ (i j : Nat), s20 = .int .i64 i ∧ s21 = .int .i64 j ∧ st ≤ i ∧ i ≤ j ∧ j ≤ r ∧ j - i ≤ kx ∧ Aside (i = st ∨ (st < i ∧ ltOf cf d[mid + m - 1 - (i - 1)]! d[i - 1]! = false)) ∧ Aside (j = r ∨ ltOf cf d[mid + m - 1 - j]! d[j]! = true) ∧ Aside (SWK enc k w0 blk off d wr))
  case atStart => exact ⟨st, r, rfl, rfl, by omega, Hb.out.2.1, by omega, by omega, Or.inl rfl, Or.inl rfl, S0⟩
  case round =>
    clear S0 wp
    obtain ⟨i, j, rfl, rfl, hmi, hij, hjb, hkx, P1, P2, S1⟩ := hrel
    by_cases hlt : i < j
    · as_aux_lemma =>
        have hltz : (i : Int) < (j : Int) := by omega
        obtain ⟨h, hh⟩ : ∃ h, (i + j) / 2 = h := ⟨_, rfl⟩
        have hb4 := Hb.out
        have wa : IntKind.i64.wrap ((i : Int) + (j : Int)) = (i : Int) + (j : Int) := w_add i j (by omega)
        go_upto_region 35 with (fail)
        rw [show ((i : Int) + (j : Int)) / 2 = (h : Int) by omega]
        have hh1 : i ≤ h ∧ h < j := by omega
        obtain ⟨u, hu⟩ : ∃ u, pp - h = u := ⟨_, rfl⟩
        have hu2 : u = mid + m - 1 - h ∧ u < N ∧ h ≤ pp := by have := Hnn.out; have := Hpp.out; have := Hst.out; have := Hmid.out; omega
        have wu : IntKind.i64.wrap ((pp : Int) - (h : Int)) = (u : Int) := w_subN pp h u (by omega) (by have := Hnn.out; have := Hpp.out; omega)
        have Hu2 := hide hu2.1
        have huN := hu2.2.1
        clear hh wa hu hu2
        have c1a : (((u) : Nat) : Int).toNat = u := by omega
        have c1b : (0 : Int) ≤ ((u : Nat) : Int) := by omega
        have c1c : ((u : Nat) : Int) < (N : Int) := by omega
        have c2a : (((h) : Nat) : Int).toNat = h := by omega
        have c2b : (0 : Int) ≤ ((h : Nat) : Int) := by omega
        have c2c : ((h : Nat) : Int) < (N : Int) := by omega
        have lp := S1.out.ld R (by omega) P u (by omega)
        have lq := S1.out.ld R (by omega) P h (by omega)
        obtain ⟨xp, hxp⟩ : ∃ x, d[u]! = x := ⟨_, rfl⟩
        obtain ⟨xq, hxq⟩ : ∃ x, d[h]! = x := ⟨_, rfl⟩
        rw [hxp] at lp
        rw [hxq] at lq
        have n1 : (enc xp).length = k := R.hk _
        have n2 : (enc xq).length = k := R.hk _
        have hcg : ∀ n' os', Calls P g #[.agg (enc xp).toArray, .agg (enc xq).toArray] (Go.Sort.grow (wr.drewN n') os') fun e w' => e = .returned (.int .i64 (cf xp xq)) ∧ ∃ q os'', w' = Go.Sort.grow ((Go.Sort.grow (wr.drewN n') os').drewN q) os'' := fun n' os' => by
          have := S1.out.cmp HC.out (by omega) xp xq n' os'
          rwa [Array.append_empty] at this
        have HXP := hide hxp
        have HXQ := hide hxq
        clear hxp hxq
        by_cases hlv : cf xp xq < 0
        · have HV := hide (show ltOf cf d[mid + m - 1 - h]! d[h]! = true by rw [← Hu2.out, HXP.out, HXQ.out]; exact decide_eq_true hlv)
          go_quiet_grown (first | (go_at_fn g; refine Calls.grown_of (hcg _ _)))
          go_wp2_with fail
          go_roundg (h - i)
          case measure => omega
          case rel => exact ⟨i, h, rfl, rfl, hmi, by omega, by omega, Nat.le_refl _, P1, Or.inr HV.out, S1.out.grown nq osq⟩
        · have HV := hide (show ltOf cf d[mid + m - 1 - (h + 1 - 1)]! d[h + 1 - 1]! = false by rw [Nat.add_sub_cancel, ← Hu2.out, HXP.out, HXQ.out]; exact decide_eq_false hlv)
          go_quiet_grown (first | (go_at_fn g; refine Calls.grown_of (hcg _ _)))
          have wh : IntKind.i64.wrap ((h : Int) + 1) = (h : Int) + 1 := w_add1 h (by omega)
          go_wp2_with fail
          go_roundg (j - (h + 1))
          case measure => omega
          case rel => exact ⟨h + 1, j, by go_num, rfl, by omega, by omega, hjb, Nat.le_refl _, Or.inr ⟨by omega, HV.out⟩, P2, S1.out.grown nq osq⟩
    · have hltz : ¬ (i : Int) < (j : Int) := by omega
      have hb4 := Hb.out
      obtain ⟨en, hen⟩ : ∃ en, mid + m - i = en := ⟨_, rfl⟩
      have Hij := hide (show i = j by omega)
      have P3 := hide (show i = r ∨ ltOf cf d[mid + m - 1 - i]! d[i]! = true by rw [show i = j by omega]; exact P2.out)
      have we : IntKind.i64.wrap ((nn : Int) - (i : Int)) = (en : Int) := w_subN nn i en (by have := Hnn.out; omega) (by have := Hnn.out; omega)
      have hen2 : m ≤ en ∧ mid ≤ en ∧ en ≤ b := by have := Hst.out; have := Hmid.out; omega
      have hsN : i ≤ m ∧ i ≤ mid ∧ a ≤ i := by omega
      have Hen := hide hen
      clear P2 hen
      go_upto_region 39 with (fail)
      clear we hltz
      go_cut [185] (fun v wc => v = .bool (decide (i < m ∧ m < en)) ∧ wr = wc)
      case first =>
        as_aux_lemma =>
          by_cases q1 : i < m
          · have q2 : (i : Int) < (m : Int) := by omega
            by_cases q3 : m < en
            · have q4 : (m : Int) < (en : Int) := by omega
              have HQ := hide (And.intro q1 q3)
              clear q1 q3
              go_wp2_with fail
              go_meet
              case rel => exact ⟨by rw [decide_eq_true HQ.out], rfl⟩
            · have q4 : ¬ (m : Int) < (en : Int) := by omega
              have HQ := hide (show ¬ (i < m ∧ m < en) by omega)
              clear q1 q3
              go_wp2_with fail
              go_meet
              case rel => exact ⟨by rw [decide_eq_false HQ.out], rfl⟩
          · have q2 : ¬ (i : Int) < (m : Int) := by omega
            have HQ := hide (show ¬ (i < m ∧ m < en) by omega)
            clear q1
            go_wp2_with fail
            go_meet
            case rel => exact ⟨by rw [decide_eq_false HQ.out], rfl⟩
      obtain ⟨rfl, rfl⟩ := hcut
      go_upto_if 185 with (fail)
      go_cut [] (fun wc => ∃ d1, d1.size = N ∧ RotOf d d1 i m en ∧ SWK enc k w0 blk off d1 wc)
      case first =>
        as_aux_lemma =>
          by_cases q0 : i < m ∧ m < en
          · rw [decide_eq_true q0]
            have HRt := hide (rotateP k HL.out enc g blk off cap i m en N d0 d w0 wr R (by omega) hdN S1.out q0.1 q0.2 (by omega) (by omega))
            clear q0
            go_wp2_with ((go_at_fn 38; refine HRt.out.mono ?_; rintro e w' ⟨rfl, d1, hr1, hs1⟩))
            go_meet
            case rel => exact ⟨d1, hr1.size.trans hdN, hr1, hs1⟩
          · rw [decide_eq_false q0]
            have HR0 := hide (show RotOf d d i m en by
              by_cases q1 : i < m
              · rw [show en = m by omega]; exact RotOf.none_r d (by omega)
              · rw [show i = m by omega]; exact RotOf.none_l d (by omega))
            clear q0
            go_wp2_with fail
            go_meet
            case rel => exact ⟨d, hdN, HR0.out, S1.out⟩
      obtain ⟨d1, hd1, hr1, S3⟩ := hcut
      obtain ⟨wd, rfl⟩ : ∃ wx : World, wx = wc := ⟨_, rfl⟩
      have Hcr := hide (sym_cross (mid := mid) (s := i) (st := st) (r := r) HS.out H1.out H2.out (by omega) (by omega) Hmid.out.symm Hst.out hmi (by omega) P1.out P3.out (by rw [Hen.out]; exact hr1))
      have Hpt := hide (sym_parts (mid := mid) (s := i) H1.out H2.out hsN.2.2 hsN.1 hsN.2.1 (by rw [Hen.out]; exact hen2.2.2) (by rw [Hen.out]; exact hr1))
      rw [Hen.out] at Hpt
      have HM1 := hide ((hr1.mof hsN.1 hen2.1).wide hsN.2.2 (by omega) hen2.2.2)
      have S3 := hide S3
      clear hr1 P1 P3 S1 HC
      go_upto_region 41 with (fail)
      go_cut [199] (fun v wc => v = .bool (decide (a < i ∧ i < mid)) ∧ wd = wc)
      case first =>
        as_aux_lemma =>
          by_cases q1 : a < i
          · have q2 : (a : Int) < (i : Int) := by omega
            by_cases q3 : i < mid
            · have q4 : (i : Int) < (mid : Int) := by omega
              have HQ := hide (And.intro q1 q3)
              clear q1 q3
              go_wp2_with fail
              go_meet
              case rel => exact ⟨by rw [decide_eq_true HQ.out], rfl⟩
            · have q4 : ¬ (i : Int) < (mid : Int) := by omega
              have HQ := hide (show ¬ (a < i ∧ i < mid) by omega)
              clear q1 q3
              go_wp2_with fail
              go_meet
              case rel => exact ⟨by rw [decide_eq_false HQ.out], rfl⟩
          · have q2 : ¬ (a : Int) < (i : Int) := by omega
            have HQ := hide (show ¬ (a < i ∧ i < mid) by omega)
            clear q1
            go_wp2_with fail
            go_meet
            case rel => exact ⟨by rw [decide_eq_false HQ.out], rfl⟩
      obtain ⟨rfl, rfl⟩ := hcut
      go_upto_if 199 with (fail)
      go_cut [] (fun wc => ∃ d2, d2.size = N ∧ MOf d1 d2 a mid ∧ SrtIn (ltOf cf) d2 a mid ∧ SWK enc k w0 blk off d2 wc)
      case first =>
        as_aux_lemma =>
          by_cases q0 : a < i ∧ i < mid
          · rw [decide_eq_true q0]
            have HRt := hide (IH.out a i mid d1 wd (by omega) hd1 S3.out q0.1 q0.2 (by omega) Hpt.out.1 Hpt.out.2.1)
            clear q0
            go_wp2_with ((go_at_fn 37; refine HRt.out.mono ?_; rintro e w' ⟨rfl, d2, hm2, hs2, hs3⟩))
            go_meet
            case rel => exact ⟨d2, hm2.size.trans hd1, hm2, hs2, hs3⟩
          · rw [decide_eq_false q0]
            have HR0 := hide (show SrtIn (ltOf cf) d1 a mid by
              by_cases q1 : a < i
              · rw [show mid = i by omega]; exact Hpt.out.1
              · rw [show a = i by omega]; exact Hpt.out.2.1)
            clear q0
            go_wp2_with fail
            go_meet
            case rel => exact ⟨d1, hd1, MOf.refl _ _ _, HR0.out, S3.out⟩
      obtain ⟨d2, hd2, hm2, hs2, S4⟩ := hcut
      obtain ⟨we, rfl⟩ : ∃ wx : World, wx = wc := ⟨_, rfl⟩
      have S4 := hide S4
      have HM2 := hide hm2
      have HS2 := hide hs2
      have Hp3 := hide (Hpt.out.2.2.1.kept hm2 (Nat.le_refl _))
      have Hp4 := hide (Hpt.out.2.2.2.kept hm2 hen2.2.1)
      clear hm2 hs2 S3 Hpt
      go_upto_region 43 with (fail)
      go_cut [213] (fun v wc => v = .bool (decide (mid < en ∧ en < b)) ∧ we = wc)
      case first =>
        as_aux_lemma =>
          by_cases q1 : mid < en
          · have q2 : (mid : Int) < (en : Int) := by omega
            by_cases q3 : en < b
            · have q4 : (en : Int) < (b : Int) := by omega
              have HQ := hide (And.intro q1 q3)
              clear q1 q3
              go_wp2_with fail
              go_meet
              case rel => exact ⟨by rw [decide_eq_true HQ.out], rfl⟩
            · have q4 : ¬ (en : Int) < (b : Int) := by omega
              have HQ := hide (show ¬ (mid < en ∧ en < b) by omega)
              clear q1 q3
              go_wp2_with fail
              go_meet
              case rel => exact ⟨by rw [decide_eq_false HQ.out], rfl⟩
          · have q2 : ¬ (mid : Int) < (en : Int) := by omega
            have HQ := hide (show ¬ (mid < en ∧ en < b) by omega)
            clear q1
            go_wp2_with fail
            go_meet
            case rel => exact ⟨by rw [decide_eq_false HQ.out], rfl⟩
      obtain ⟨rfl, rfl⟩ := hcut
      go_upto_if 213 with (fail)
      by_cases q0 : mid < en ∧ en < b
      · rw [decide_eq_true q0]
        have HRt := hide (IH.out mid en b d2 we (by omega) hd2 S4.out q0.1 q0.2 hbN Hp3.out Hp4.out)
        clear q0
        go_wp2_with ((go_at_fn 37; refine HRt.out.mono ?_; rintro e w' ⟨rfl, d3, hm3, hs3, S5⟩))
        go_end0
        obtain ⟨hM, hSo⟩ := sym_done (a := a) (mid := mid) (b := b) (by omega) (by omega) Hcr.out HM2.out hm3 HS2.out hs3
        exact ⟨rfl, d3, HM1.out.trans hM, hSo, S5⟩
      · rw [decide_eq_false q0]
        have HR0 := hide (show SrtIn (ltOf cf) d2 mid b by
          by_cases q1 : mid < en
          · rw [show b = en by omega]; exact Hp3.out
          · rw [show mid = en by omega]; exact Hp4.out)
        clear q0
        go_wp2_with fail
        go_end0
        obtain ⟨hM, hSo⟩ := sym_done (a := a) (mid := mid) (b := b) (by omega) (by omega) Hcr.out HM2.out (MOf.refl _ _ _) HS2.out HR0.out
        exact ⟨rfl, d2, HM1.out.trans hM, hSo, S4.out⟩
theorem symMergeP (k : Nat) (L : SLays P k) (enc : α → List Value) (cf : α → α → Int) (g : Nat) (eg : ∀ args w, (callFunc g args).run P w = .ok (.enter g args) w) (hS : SwoL (ltOf cf)) (blk off cap N : Nat) (d0 : Array α) (w0 : World)
    (R : RowK enc k w0 blk off d0) (hcmp : CmpLays P g #[] enc k cf blk off d0.size w0) (hN : d0.size = N) (hsz : N ≤ 4096) : ∀ (fuel a m b : Nat) (d : Array α) (w : World), b - a ≤ fuel → d.size = N → SWK enc k w0 blk off d w → a < m → m < b → b ≤ N → SrtIn (ltOf cf) d a m → SrtIn (ltOf cf) d m b →
    Calls P 37 #[.slice (some ⟨blk, off, none⟩) N cap, .int .i64 a, .int .i64 m, .int .i64 b, .func (.func g) #[] #[]] w fun e w' => e = .returned (.tuple #[]) ∧ ∃ d', MOf d d' a b ∧ SrtIn (ltOf cf) d' a b ∧ SWK enc k w0 blk off d' w' := by
  intro fuel
  induction fuel with
  | zero => intro a m b d w h1 h2 h3 h4 h5; omega
  | succ fuel ih =>
    intro a m b d w hfu hdN S ham hmb hbN hs1 hs2
    by_cases hA : m = a + 1
    · exact symMergeA k L enc cf g eg hS blk off cap N d0 w0 R hcmp hN hsz a m b d w hdN S ham hmb hbN hs1 hs2 hA
    · by_cases hB : b = m + 1
      · exact symMergeB k L enc cf g eg hS blk off cap N d0 w0 R hcmp hN hsz a m b d w hdN S ham hmb hbN hs1 hs2 hA hB
      · exact symMergeC k L enc cf g eg hS blk off cap N d0 w0 R hcmp hN hsz fuel ih a m b d w hfu hdN S ham hmb hbN hs1 hs2 hA hB
end
end Go.Proofs.Ytlealjcllbpgkaa

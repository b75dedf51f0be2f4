/- Package fib: all entries of a trie, in order: the walk. No condition but those that stand in each theorem. -/
import Derived.Test.YtkljanjapcpbdaaDoorFib7
import Derived.Test.YtkljanjapcpbdaaDoorIp4
import Derived.Deep.AppendLies
namespace Go.Proofs.YtkljanjapcpbdaaDoor
open Go.RowKit

/-- What is there from a node on, in order: depth, first bits, hop. -/
def lst (V : Fm.VM) : Nat → Nat → Nat → List (Nat × Nat × Int)
  | 0, _, _ => []
  | k + 1, i, v => (match V i v with | some h => [(i, v, h)] | none => []) ++ (lst V k (i + 1) (2 * v) ++ lst V k (i + 1) (2 * v + 1))

def adr (i v : Nat) : Int := ((v * 2 ^ (32 - i) : Nat) : Int)
def cells3 (l : List (Nat × Nat × Int)) : List Value := l.flatMap fun e => [.int .i64 (adr e.1 e.2.1), .int .i64 e.1, .int .i64 e.2.2]

theorem cells3_append (l m : List (Nat × Nat × Int)) : cells3 (l ++ m) = cells3 l ++ cells3 m := by simp [cells3]

theorem lst_none {w : World} {r : Nat} {N : Nat → Nat → Option Nat} {V : Fm.VM} (h : Nodes w r N V) : ∀ (k i v : Nat), N i v = none → lst V k i v = [] := by
  intro k
  induction k with
  | zero => intro i v _; rfl
  | succ k ih =>
    intro i v hn
    have g := h.gone i v hn
    rw [lst, h.said i v hn, ih _ _ g.1, ih _ _ g.2]
    rfl

theorem adr_low (i v : Nat) (hi : i < 32) : adr (i + 1) (2 * v) = adr i v ∧ adr (i + 1) (2 * v + 1) = adr i v + ((2 ^ (31 - i) : Nat) : Int) := by
  unfold adr
  rw [show 32 - (i + 1) = 31 - i by omega, show 32 - i = (31 - i) + 1 by omega, Nat.pow_succ]
  generalize 2 ^ (31 - i) = m
  constructor
  · congr 1
    rw [Nat.mul_comm 2 v, Nat.mul_assoc, Nat.mul_comm 2 m]
  · rw [← Int.natCast_add]
    congr 1
    rw [Nat.add_mul, Nat.one_mul, Nat.mul_comm 2 v, Nat.mul_assoc, Nat.mul_comm 2 m]

theorem adr_chk (i v : Nat) (hi : i ≤ 32) (hv : v < 2 ^ i) : chk (adr i v) i = 0 := by
  have h1 : v * 2 ^ (32 - i) < 4294967296 := by
    have h2 : v * 2 ^ (32 - i) < 2 ^ i * 2 ^ (32 - i) := Nat.mul_lt_mul_of_pos_right hv (pow_pos2 _)
    rw [← Nat.pow_add, show i + (32 - i) = 32 by omega] at h2
    simpa using h2
  rw [chk_right ⟨by unfold adr; omega, by unfold adr; omega⟩ ⟨by omega, by omega⟩, if_pos]
  unfold adr low
  rw [Int.toNat_natCast, Int.toNat_natCast]
  exact Nat.mul_mod_left _ _

abbrev TE : TypeId := 75
theorem info_TE : (Tryd.prog.info? TE).map (fun i => (i.zero, i.size, i.bytes)) = some (some (.agg #[.int .i64 0, .int .i64 0, .int .i64 0]), 3, 24) := by kernel_rfl

theorem own_ne {w : World} {base g : Nat} {e t : TypeId} {size n : Nat} {v : Value} {xs : List Value} {cs : Array Value} (h : w.ownsRow base e size v n xs) (hg : Blk w g t cs) (hne : e ≠ t) : v.ownBlock ≠ some g := by
  rcases h.2 with ⟨rfl, _⟩ | ⟨g1, cap, cur, rfl, _, hh, _⟩
  · simp [Value.ownBlock]
  · intro he
    have : g1 = g := by simpa [Value.ownBlock] using he
    subst this
    exact Blk.ne_ (t := e) hh hg hne rfl

/-- What 'all' leaves. -/
def AllPost (base : Nat) (out : Value) (n : Nat) (xs : List Value) (l : List (Nat × Nat × Int)) (w : World) (e : Ending) (w1 : World) : Prop :=
  ∃ out1, e = .returned out1 ∧ w1.ownsRow base TE 3 out1 (n + l.length) (xs ++ cells3 l) ∧ Upd (fun k => out.ownBlock = some k) w w1 ∧ (out1.ownBlock = out.ownBlock ∨ ∃ g, w.heap.size ≤ g ∧ out1.ownBlock = some g)

theorem own_upd {S : Nat → Prop} {w w1 : World} {base : Nat} {e : TypeId} {size n : Nat} {v : Value} {xs : List Value} (h : w.ownsRow base e size v n xs) (hu : Upd S w w1) (hn : ∀ g, v.ownBlock = some g → ¬ S g) : w1.ownsRow base e size v n xs := by
  obtain ⟨h1, h2⟩ := h
  refine ⟨h1, ?_⟩
  rcases h2 with h2 | ⟨g, cap, cur, rfl, hg, hh, r⟩
  · exact .inl h2
  · have hlt : g < w.heap.size := by
      rcases Nat.lt_or_ge g w.heap.size with hlt | hge
      · exact hlt
      · rw [Array.getElem?_eq_none hge] at hh; cases hh
    exact .inr ⟨g, cap, cur, rfl, hg, (hu.block g hlt (hn g (by simp [Value.ownBlock]))).trans hh, r⟩

theorem all_nil (base : Nat) (E : Nat → Addr) (V : Fm.VM) (N : Nat → Nat → Option Nat) (r k i v n : Nat) (out : Value) (xs : List Value) (p : Value) (cs : Array Value) (hp : p = .agg cs) (w : World) (hN : Nodes w r N V) (hown : w.ownsRow base TE 3 out n xs) (hnone : N i v = none) :
    Calls Tryd.prog 83 #[.pointer none, p, out] w (AllPost base out n xs (lst V k i v) w) := by
  subst hp
  rw [lst_none hN k i v hnone]
  have Hown := hide hown
  clear hN hown hnone
  go_enter Tryd.func83, Tryd.ntmps83
  go_wp2_with fail
  go_ret
  exact ⟨out, rfl, by simpa [cells3] using Hown.out.alloc _, (Upd.refl _ _).alloc _, .inl rfl⟩
end Go.Proofs.YtkljanjapcpbdaaDoor

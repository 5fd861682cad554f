/- append of one struct to a slice of the call's own. -/
import Derived.Test.YtljmhmdpihpafaaDoorApp
namespace Go.Proofs.YtljmhmdpihpafaaDoor
open Go.RowKit Go.Shelf

theorem below_own {B : Nat} {w w' : World} {v : Value} (hg : w.grownBy w' v.ownBlock) (hB : B ≤ w.heap.size) (hr : ∀ g, v.ownBlock = some g → B ≤ g) : Below B w w' :=
  (Below.refl B w).grown hg hB hr

section
variable {α : Type} {k : Nat} {enc : α → List Value} {w : World} {P : Program}

/-- append(s, y) where s is of the call's own, and y lies, alone, at an address. -/
theorem append_one {ops : Array Oper} {rest : List Oper} {o : Oper} {a : Act} {Q : Exit → Act → World → Prop} (hgd : o.guard = none) (s x : Operand) (t : TypeId)
    (ho : o.op = .call { callee := .builtin .append, args := #[s, x], argTypes := #[t, t] })
    (base : Nat) (e : TypeId) (i : TypeInfo) (z : Value) (bytes : Nat) (ht : P.underlying t = some (.slice e)) (hi : P.info? e = some i) (hz : i.zero = some z)
    (hsize : i.size = k) (hby : i.bytes = bytes) (hzs : z.cells.size = k) (hsz : 0 < k) (hk : ∀ x, (enc x).length = k) (hone : ∀ x, ∀ u ∈ enc x, u.oneCell' = true)
    (v : Value) (l : List α) (hs : a.eval s = v) (hown : Owns k e enc w base v l)
    (ad : Addr) (y : α) (hx : a.eval x = .slice (some ad) 1 1) (hnew : ∀ (j : Nat) u, (enc y)[j]? = some u → w.cell? (ad.add j) = some u)
    (h63 : l.length + 1 ≤ maxLen) (hbytes : (l.length + 1) * bytes ≤ 140737488355328) (hbase : base ≤ w.heap.size)
    (h : ∀ v' w', Owns k e enc w' base v' (l ++ [y]) → Below base w w' → w.grownBy w' v.ownBlock → wpList P ops Q rest (a.put o.dst v') w') : wpList P ops Q (o :: rest) a w := by
  refine wpList_append_own w hgd s x t ho base e i z k bytes ht hi hz hsize hby hzs hsz v l.length _ hs hown ad 1 1 (enc y) hx (by rw [hk y]; simp) hnew (hone y) h63 hbytes hbase fun v' w' h1 h2 _ => ?_
  refine h v' w' ?_ (below_own h2 hbase (fun g e => (Owns.block hown g e).1)) h2
  unfold Owns
  rw [List.length_append, List.flatMap_append]
  simpa using h1
end
end Go.Proofs.YtljmhmdpihpafaaDoor

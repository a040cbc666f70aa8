/- The lists by links, as plain data: what each function of the package makes of them. -/
namespace Go.Proofs.YtcbkpekbfkaeeaaDoor.Ls
structure Link where
  lst : Int
  prv : Int
  nxt : Int
  deriving DecidableEq, Repr
structure Head where
  fst : Int
  lst : Int
  cnt : Int
  deriving DecidableEq, Repr
structure LS where
  nodes : List Link
  heads : List Head
  deriving DecidableEq, Repr
def loose : Link := ⟨-1, -1, -1⟩
def upd {α : Type} (xs : List α) (i : Int) (f : α → α) : List α := match xs[i.toNat]? with | some u => xs.set i.toNat (f u) | none => xs
theorem upd_some {α : Type} {xs : List α} {i : Int} {u : α} (f : α → α) (h : xs[i.toNat]? = some u) : upd xs i f = xs.set i.toNat (f u) := by simp [upd, h]
theorem upd_length {α : Type} (xs : List α) (i : Int) (f : α → α) : (upd xs i f).length = xs.length := by unfold upd; split <;> simp
def LS.insert (x : LS) (li nd pv nx : Int) : LS :=
  let n1 := x.nodes.set nd.toNat ⟨li, pv, nx⟩
  let n2 := if pv = -1 then n1 else upd n1 pv (fun u => { u with nxt := nd })
  let h2 := if pv = -1 then upd x.heads li (fun u => { u with fst := nd }) else x.heads
  let n3 := if nx = -1 then n2 else upd n2 nx (fun u => { u with prv := nd })
  let h3 := if nx = -1 then upd h2 li (fun u => { u with lst := nd }) else h2
  ⟨n3, upd h3 li (fun u => { u with cnt := u.cnt + 1 })⟩
def LS.remove (x : LS) (nd : Int) : LS :=
  match x.nodes[nd.toNat]? with
  | none => x
  | some v =>
    let h1 := if v.prv = -1 then upd x.heads v.lst (fun u => { u with fst := v.nxt }) else x.heads
    let n1 := if v.prv = -1 then x.nodes else upd x.nodes v.prv (fun u => { u with nxt := v.nxt })
    let h2 := if v.nxt = -1 then upd h1 v.lst (fun u => { u with lst := v.prv }) else h1
    let n2 := if v.nxt = -1 then n1 else upd n1 v.nxt (fun u => { u with prv := v.prv })
    ⟨n2.set nd.toNat loose, upd h2 v.lst (fun u => { u with cnt := u.cnt - 1 })⟩
def LS.new (n m : Nat) : LS := ⟨List.replicate n loose, List.replicate m ⟨-1, -1, 0⟩⟩
end Go.Proofs.YtcbkpekbfkaeeaaDoor.Ls

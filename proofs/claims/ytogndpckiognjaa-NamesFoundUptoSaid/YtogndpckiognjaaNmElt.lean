/- The names' seat: what the program's table says of the element types; a source's words. -/
import Derived.Test.YtogndpckiognjaaLib
import Derived.Test.YtogndpckiognjaaProg
namespace Go.Proofs.Ytogndpckiognjaa
open Go.RowKit
set_option linter.unusedVariables false
set_option linter.unusedSimpArgs false
theorem elt_str : Elt Try.prog 22 9 1 16 (.string ByteArray.empty) := elt_of Try.underlying22 (by kernel_rfl) rfl (by decide) rfl
theorem elt_lab : Elt Try.prog 40 35 1 8 (.int .u64 0) := elt_of Try.underlying40 (by kernel_rfl) rfl (by decide) rfl
theorem elt_int : Elt Try.prog 87 3 1 8 (.int .i64 0) := elt_of Try.underlying87 (by kernel_rfl) rfl (by decide) rfl
theorem elt_decl : Elt Try.prog 23 37 2 24 (.agg #[.string ByteArray.empty, .int .u64 0]) := elt_of Try.underlying23 (by kernel_rfl) rfl (by decide) rfl
theorem elt_decls : Elt Try.prog 95 23 1 24 (.slice none 0 0) := elt_of Try.underlying95 (by kernel_rfl) rfl (by decide) rfl
theorem elt_arr : Elt Try.prog 24 39 3 32 (.agg #[.string ByteArray.empty, .int .i64 0, .int .u64 0]) := elt_of Try.underlying24 (by kernel_rfl) rfl (by decide) rfl
theorem elt_term : Elt Try.prog 60 62 3 32 (.agg #[.int .i64 0, .int .i64 0, .string ByteArray.empty]) := elt_of Try.underlying60 (by kernel_rfl) rfl (by decide) rfl
theorem elt_terms : Elt Try.prog 45 60 1 24 (.slice none 0 0) := elt_of Try.underlying45 (by kernel_rfl) rfl (by decide) rfl
theorem elt_stmt : Elt Try.prog 41 47 4 72 (.agg #[.int .i64 0, .string ByteArray.empty, .slice none 0 0, .slice none 0 0]) := elt_of Try.underlying41 (by kernel_rfl) rfl (by decide) rfl
theorem elt_func : Elt Try.prog 25 43 6 120 (.agg #[.string ByteArray.empty, .int .u64 0, .slice none 0 0, .slice none 0 0, .slice none 0 0, .slice none 0 0]) := elt_of Try.underlying25 (by kernel_rfl) rfl (by decide) rfl

/-- The words of a source. -/
structure Decl where
  name : ByteArray
  label : Int
deriving instance DecidableEq for Decl
structure Arr where
  name : ByteArray
  len : Int
  label : Int
deriving instance DecidableEq for Arr
structure Term where
  kind : Int
  value : Int
  name : ByteArray
deriving instance DecidableEq for Term
structure Stmt where
  kind : Int
  name : ByteArray
  targets : List ByteArray
  exprs : List (List Term)
deriving instance DecidableEq for Stmt
structure FDecl where
  name : ByteArray
  level : Int
  params : List Decl
  results : List Int
  vars : List Decl
  body : List Stmt
deriving instance DecidableEq for FDecl
structure Src where
  principals : List ByteArray
  globals : List Decl
  arrays : List Arr
  channels : List Decl
  funcs : List FDecl
deriving instance DecidableEq for Src
/-- .. as they lie. -/
structure StmtH where
  kind : Int
  name : ByteArray
  t : Hdr
  e : Hdr
structure FuncH where
  name : ByteArray
  level : Int
  p : Hdr
  r : Hdr
  v : Hdr
  b : Hdr
def Enc.decl : Enc Decl := ⟨2, fun x => [.string x.name, .int .u64 x.label], fun _ => rfl, fun _ u h => by simp at h; rcases h with rfl | rfl <;> rfl⟩
def Enc.arr : Enc Arr := ⟨3, fun x => [.string x.name, .int .i64 x.len, .int .u64 x.label], fun _ => rfl, fun _ u h => by simp at h; rcases h with rfl | rfl | rfl <;> rfl⟩
def Enc.term : Enc Term := ⟨3, fun x => [.int .i64 x.kind, .int .i64 x.value, .string x.name], fun _ => rfl, fun _ u h => by simp at h; rcases h with rfl | rfl | rfl <;> rfl⟩
def Enc.stmt : Enc StmtH := ⟨4, fun x => [.int .i64 x.kind, .string x.name, .slice x.t.A x.t.n x.t.c, .slice x.e.A x.e.n x.e.c], fun _ => rfl, fun _ u h => by simp at h; rcases h with rfl | rfl | rfl | rfl <;> rfl⟩
def Enc.func : Enc FuncH := ⟨6, fun x => [.string x.name, .int .u64 x.level, .slice x.p.A x.p.n x.p.c, .slice x.r.A x.r.n x.r.c, .slice x.v.A x.v.n x.v.c, .slice x.b.A x.b.n x.b.c], fun _ => rfl, fun _ u h => by simp at h; rcases h with rfl | rfl | rfl | rfl | rfl | rfl <;> rfl⟩
abbrev Decl.val (d : Decl) : Value := .agg #[.string d.name, .int .u64 d.label]
abbrev Arr.val (d : Arr) : Value := .agg #[.string d.name, .int .i64 d.len, .int .u64 d.label]
abbrev Term.val (d : Term) : Value := .agg #[.int .i64 d.kind, .int .i64 d.value, .string d.name]
abbrev StmtH.val (x : StmtH) : Value := .agg #[.int .i64 x.kind, .string x.name, .slice x.t.A x.t.n x.t.c, .slice x.e.A x.e.n x.e.c]
abbrev FuncH.val (x : FuncH) : Value := .agg #[.string x.name, .int .u64 x.level, .slice x.p.A x.p.n x.p.c, .slice x.r.A x.r.n x.r.c, .slice x.v.A x.v.n x.v.c, .slice x.b.A x.b.n x.b.c]

/-- A slice's words and what is read through them. -/
structure RdH {α : Type} (E : Enc α) (w : World) (h : Hdr) (xs : List α) : Prop where
  n : h.n = xs.length
  c : xs.length ≤ h.c
  rd : Rd E w h.A xs
theorem RdH.below {α : Type} {E : Enc α} {w w' : World} {h : Hdr} {xs : List α} (H : RdH E w h xs) (hb : Below w.heap.size w w') : RdH E w' h xs := ⟨H.n, H.c, Rd.below H.rd hb⟩
/-- Lists of lists. -/
structure RdHs {α : Type} (E : Enc α) (w : World) (h : Hdr) (rows : List (List α)) (hs : List Hdr) : Prop where
  len : hs.length = rows.length
  hdr : RdH Enc.hdr w h hs
  each : ∀ (i : Nat) (hd : Hdr) (r : List α), hs[i]? = some hd → rows[i]? = some r → RdH E w hd r
theorem RdHs.below {α : Type} {E : Enc α} {w w' : World} {h : Hdr} {rows : List (List α)} {hs : List Hdr} (H : RdHs E w h rows hs) (hb : Below w.heap.size w w') : RdHs E w' h rows hs :=
  ⟨H.len, H.hdr.below hb, fun i hd r h1 h2 => (H.each i hd r h1 h2).below hb⟩
structure RdS (w : World) (h : StmtH) (s : Stmt) : Prop where
  kind : h.kind = s.kind
  name : h.name = s.name
  targets : RdH Enc.str w h.t s.targets
  exprs : ∃ hs, RdHs Enc.term w h.e s.exprs hs
theorem RdS.below {w w' : World} {h : StmtH} {s : Stmt} (H : RdS w h s) (hb : Below w.heap.size w w') : RdS w' h s :=
  ⟨H.kind, H.name, H.targets.below hb, H.exprs.imp fun hs h => h.below hb⟩
/-- Statements. -/
structure RdB (w : World) (h : Hdr) (l : List Stmt) (hs : List StmtH) : Prop where
  len : hs.length = l.length
  hdr : RdH Enc.stmt w h hs
  each : ∀ (i : Nat) (hd : StmtH) (s : Stmt), hs[i]? = some hd → l[i]? = some s → RdS w hd s
theorem RdB.below {w w' : World} {h : Hdr} {l : List Stmt} {hs : List StmtH} (H : RdB w h l hs) (hb : Below w.heap.size w w') : RdB w' h l hs :=
  ⟨H.len, H.hdr.below hb, fun i hd r h1 h2 => (H.each i hd r h1 h2).below hb⟩
structure RdF (w : World) (h : FuncH) (f : FDecl) : Prop where
  name : h.name = f.name
  level : h.level = f.level
  params : RdH Enc.decl w h.p f.params
  results : RdH Enc.u64 w h.r f.results
  vars : RdH Enc.decl w h.v f.vars
  body : ∃ hs, RdB w h.b f.body hs
theorem RdF.below {w w' : World} {h : FuncH} {f : FDecl} (H : RdF w h f) (hb : Below w.heap.size w w') : RdF w' h f :=
  ⟨H.name, H.level, H.params.below hb, H.results.below hb, H.vars.below hb, H.body.imp fun hs h => h.below hb⟩
structure RdFs (w : World) (h : Hdr) (l : List FDecl) (hs : List FuncH) : Prop where
  len : hs.length = l.length
  hdr : RdH Enc.func w h hs
  each : ∀ (i : Nat) (hd : FuncH) (s : FDecl), hs[i]? = some hd → l[i]? = some s → RdF w hd s
theorem RdFs.below {w w' : World} {h : Hdr} {l : List FDecl} {hs : List FuncH} (H : RdFs w h l hs) (hb : Below w.heap.size w w') : RdFs w' h l hs :=
  ⟨H.len, H.hdr.below hb, fun i hd r h1 h2 => (H.each i hd r h1 h2).below hb⟩
structure SrcH where
  p : Hdr
  g : Hdr
  a : Hdr
  c : Hdr
  f : Hdr
  fs : List FuncH
abbrev SrcH.cells (x : SrcH) : List Value := [.slice x.p.A x.p.n x.p.c, .slice x.g.A x.g.n x.g.c, .slice x.a.A x.a.n x.a.c, .slice x.c.A x.c.n x.c.c, .slice x.f.A x.f.n x.f.c]
abbrev SrcH.val (x : SrcH) : Value := .agg #[.slice x.p.A x.p.n x.p.c, .slice x.g.A x.g.n x.g.c, .slice x.a.A x.a.n x.a.c, .slice x.c.A x.c.n x.c.c, .slice x.f.A x.f.n x.f.c]
structure RdSrc (w : World) (h : SrcH) (s : Src) : Prop where
  principals : RdH Enc.str w h.p s.principals
  globals : RdH Enc.decl w h.g s.globals
  arrays : RdH Enc.arr w h.a s.arrays
  channels : RdH Enc.decl w h.c s.channels
  funcs : RdFs w h.f s.funcs h.fs
theorem RdSrc.below {w w' : World} {h : SrcH} {s : Src} (H : RdSrc w h s) (hb : Below w.heap.size w w') : RdSrc w' h s :=
  ⟨H.principals.below hb, H.globals.below hb, H.arrays.below hb, H.channels.below hb, H.funcs.below hb⟩

/-- How long things are. -/

def okName (s : ByteArray) : Prop := s.size ≤ 2000000
structure Term.Ok (t : Term) : Prop where
  name : okName t.name
  v0 : -9223372036854775808 ≤ t.value
  v1 : t.value ≤ 9223372036854775807
structure Stmt.Ok (s : Stmt) : Prop where
  name : okName s.name
  targets : s.targets.length ≤ 2000000
  target : ∀ x ∈ s.targets, okName x
  exprs : s.exprs.length ≤ 2000000
  expr : ∀ e ∈ s.exprs, e.length ≤ 2000000
  term : ∀ e ∈ s.exprs, ∀ t ∈ e, t.Ok
structure FDecl.Ok (f : FDecl) : Prop where
  name : okName f.name
  params : f.params.length ≤ 2000000
  param : ∀ d ∈ f.params, okName d.name
  results : f.results.length ≤ 2000000
  vars : f.vars.length ≤ 2000000
  var : ∀ d ∈ f.vars, okName d.name
  body : f.body.length ≤ 2000000
  stmt : ∀ s ∈ f.body, s.Ok
structure Src.Ok (s : Src) : Prop where
  principals : s.principals.length ≤ 2000000
  principal : ∀ x ∈ s.principals, okName x
  globals : s.globals.length ≤ 2000000
  global : ∀ d ∈ s.globals, okName d.name
  arrays : s.arrays.length ≤ 2000000
  array : ∀ d ∈ s.arrays, okName d.name
  channels : s.channels.length ≤ 2000000
  channel : ∀ d ∈ s.channels, okName d.name
  funcs : s.funcs.length ≤ 2000000
  func : ∀ f ∈ s.funcs, f.Ok
end Go.Proofs.Ytogndpckiognjaa

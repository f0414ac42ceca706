/- Part of a proof. -/
import Derived.Test.YtfdcjngclelnhaaGreatXS
set_option linter.unusedSectionVars false
set_option linter.unusedSimpArgs false
set_option linter.unusedVariables false
namespace Go.Proofs.YtfdcjngclelnhaaGreat
open Go Go.RowKit
set_option maxRecDepth 100000
set_option maxHeartbeats 4000000
noncomputable section
inductive t_mark_V where
  | en (s0:B132)
  | eo (s0:B132) (es0:List D) (w0:Nat)
  | l0 (y0:Int) (y1:Int) (y2:List UInt8) (y3:List UInt8) (y4:Nat)
  | l1 (y0:Int) (y1:List UInt8) (y2:List UInt8) (y3:Nat)
  | l2 (y0:Int) (y1:Int) (y2:List UInt8) (y3:List UInt8) (y4:Nat) (y5:List D) (y6:Nat)
  | l3 (y0:Int) (y1:List UInt8) (y2:List UInt8) (y3:Nat) (y4:List D) (y5:Nat)
def t_mark_at:t_mark_V → Pth × List AV × Heap
  | .en s0=>([],startT Tryz.f114 [.ptr (some (0,0))],[some (.cells 132 [.dat (.str (s0).c0),.dat (.int .i64 (s0).c1),.dat .nils] s0.ver)])
  | .eo s0 es0 w0=>([],startT Tryz.f114 [.ptr (some (0,0))],[some (.cells 132 [.dat (.str (s0).c0),.dat (.int .i64 (s0).c1),.own (.at 0 2 w0 107) es0] s0.ver)])
  | .l0 y0 y1 y2 y3 y4=>([1,1,1,1],mkT 71 [(0,.ptr (some (0,0))),(3,.dat (.int .i64 y0)),(4,.dat (.int .i64 y1)),(5,.dat (.str y2))],[some (.cells 132 [.dat (.str y3),.dat (.int .i64 y0),.dat .nils] y4)])
  | .l1 y0 y1 y2 y3=>([1,0,0,0,1,0,1,1,1],mkT 71 [(0,.ptr (some (0,0))),(3,.dat (.int .i64 y0)),(5,.dat (.str y1))],[some (.cells 132 [.dat (.str y2),.dat (.int .i64 y0),.dat .nils] y3)])
  | .l2 y0 y1 y2 y3 y4 y5 y6=>([1,1,1,1],mkT 71 [(0,.ptr (some (0,0))),(3,.dat (.int .i64 y0)),(4,.dat (.int .i64 y1)),(5,.dat (.str y2))],[some (.cells 132 [.dat (.str y3),.dat (.int .i64 y0),.own (.at 0 2 y4 107) y5] y6)])
  | .l3 y0 y1 y2 y3 y4 y5=>([1,0,0,0,1,0,1,1,1],mkT 71 [(0,.ptr (some (0,0))),(3,.dat (.int .i64 y0)),(5,.dat (.str y1))],[some (.cells 132 [.dat (.str y2),.dat (.int .i64 y0),.own (.at 0 2 y3 107) y4] y5)])
def t_mark_st (S:Fns) (r:Int × B132 → Prop) (l:t_mark_V → Prop):t_mark_V → Prop
  | .en s0=>an (decide (0 ≤ s0.c1) && decide (s0.c1 ≤ Int.ofNat s0.c0.length)) (bn ((List.take (s0.c0.length - s0.c1.toNat) (List.drop s0.c1.toNat s0.c0))[0]?) fun x16=>cnd (Int.ofNat x16.toNat == 124) (bn (S.g_HasPrefix (List.take (s0.c0.length - s0.c1.toNat) (List.drop s0.c1.toNat s0.c0)) [124,124]) fun x17=>cnd x17 (l (.l0 s0.c1 2 (List.take (s0.c0.length - s0.c1.toNat) (List.drop s0.c1.toNat s0.c0)) s0.c0 s0.ver)) (l (.l0 s0.c1 0 (List.take (s0.c0.length - s0.c1.toNat) (List.drop s0.c1.toNat s0.c0)) s0.c0 s0.ver))) (cnd (Int.ofNat x16.toNat == 60) (bn (S.g_HasPrefix (List.take (s0.c0.length - s0.c1.toNat) (List.drop s0.c1.toNat s0.c0)) [60,62]) fun x18=>cnd x18 (l (.l0 s0.c1 2 (List.take (s0.c0.length - s0.c1.toNat) (List.drop s0.c1.toNat s0.c0)) s0.c0 s0.ver)) (l (.l1 s0.c1 (List.take (s0.c0.length - s0.c1.toNat) (List.drop s0.c1.toNat s0.c0)) s0.c0 s0.ver))) (cnd (Int.ofNat x16.toNat == 62) (l (.l1 s0.c1 (List.take (s0.c0.length - s0.c1.toNat) (List.drop s0.c1.toNat s0.c0)) s0.c0 s0.ver)) (cnd (Int.ofNat x16.toNat == 40) (l (.l0 s0.c1 1 (List.take (s0.c0.length - s0.c1.toNat) (List.drop s0.c1.toNat s0.c0)) s0.c0 s0.ver)) (cnd (Int.ofNat x16.toNat == 41) (l (.l0 s0.c1 1 (List.take (s0.c0.length - s0.c1.toNat) (List.drop s0.c1.toNat s0.c0)) s0.c0 s0.ver)) (cnd (Int.ofNat x16.toNat == 44) (l (.l0 s0.c1 1 (List.take (s0.c0.length - s0.c1.toNat) (List.drop s0.c1.toNat s0.c0)) s0.c0 s0.ver)) (cnd (Int.ofNat x16.toNat == 59) (l (.l0 s0.c1 1 (List.take (s0.c0.length - s0.c1.toNat) (List.drop s0.c1.toNat s0.c0)) s0.c0 s0.ver)) (cnd (Int.ofNat x16.toNat == 46) (l (.l0 s0.c1 1 (List.take (s0.c0.length - s0.c1.toNat) (List.drop s0.c1.toNat s0.c0)) s0.c0 s0.ver)) (cnd (Int.ofNat x16.toNat == 42) (l (.l0 s0.c1 1 (List.take (s0.c0.length - s0.c1.toNat) (List.drop s0.c1.toNat s0.c0)) s0.c0 s0.ver)) (cnd (Int.ofNat x16.toNat == 43) (l (.l0 s0.c1 1 (List.take (s0.c0.length - s0.c1.toNat) (List.drop s0.c1.toNat s0.c0)) s0.c0 s0.ver)) (cnd (Int.ofNat x16.toNat == 45) (l (.l0 s0.c1 1 (List.take (s0.c0.length - s0.c1.toNat) (List.drop s0.c1.toNat s0.c0)) s0.c0 s0.ver)) (cnd (Int.ofNat x16.toNat == 47) (l (.l0 s0.c1 1 (List.take (s0.c0.length - s0.c1.toNat) (List.drop s0.c1.toNat s0.c0)) s0.c0 s0.ver)) (cnd (Int.ofNat x16.toNat == 37) (l (.l0 s0.c1 1 (List.take (s0.c0.length - s0.c1.toNat) (List.drop s0.c1.toNat s0.c0)) s0.c0 s0.ver)) (cnd (Int.ofNat x16.toNat == 61) (l (.l0 s0.c1 1 (List.take (s0.c0.length - s0.c1.toNat) (List.drop s0.c1.toNat s0.c0)) s0.c0 s0.ver)) (cnd (Int.ofNat x16.toNat == 123) (l (.l0 s0.c1 1 (List.take (s0.c0.length - s0.c1.toNat) (List.drop s0.c1.toNat s0.c0)) s0.c0 s0.ver)) (cnd (Int.ofNat x16.toNat == 125) (l (.l0 s0.c1 1 (List.take (s0.c0.length - s0.c1.toNat) (List.drop s0.c1.toNat s0.c0)) s0.c0 s0.ver)) (cnd (Int.ofNat x16.toNat == 58) (l (.l0 s0.c1 1 (List.take (s0.c0.length - s0.c1.toNat) (List.drop s0.c1.toNat s0.c0)) s0.c0 s0.ver)) (l (.l0 s0.c1 0 (List.take (s0.c0.length - s0.c1.toNat) (List.drop s0.c1.toNat s0.c0)) s0.c0 s0.ver)))))))))))))))))))
  | .eo s0 es0 w0=>an (decide (0 ≤ s0.c1) && decide (s0.c1 ≤ Int.ofNat s0.c0.length)) (bn ((List.take (s0.c0.length - s0.c1.toNat) (List.drop s0.c1.toNat s0.c0))[0]?) fun x19=>cnd (Int.ofNat x19.toNat == 124) (bn (S.g_HasPrefix (List.take (s0.c0.length - s0.c1.toNat) (List.drop s0.c1.toNat s0.c0)) [124,124]) fun x20=>cnd x20 (l (.l2 s0.c1 2 (List.take (s0.c0.length - s0.c1.toNat) (List.drop s0.c1.toNat s0.c0)) s0.c0 w0 es0 s0.ver)) (l (.l2 s0.c1 0 (List.take (s0.c0.length - s0.c1.toNat) (List.drop s0.c1.toNat s0.c0)) s0.c0 w0 es0 s0.ver))) (cnd (Int.ofNat x19.toNat == 60) (bn (S.g_HasPrefix (List.take (s0.c0.length - s0.c1.toNat) (List.drop s0.c1.toNat s0.c0)) [60,62]) fun x21=>cnd x21 (l (.l2 s0.c1 2 (List.take (s0.c0.length - s0.c1.toNat) (List.drop s0.c1.toNat s0.c0)) s0.c0 w0 es0 s0.ver)) (l (.l3 s0.c1 (List.take (s0.c0.length - s0.c1.toNat) (List.drop s0.c1.toNat s0.c0)) s0.c0 w0 es0 s0.ver))) (cnd (Int.ofNat x19.toNat == 62) (l (.l3 s0.c1 (List.take (s0.c0.length - s0.c1.toNat) (List.drop s0.c1.toNat s0.c0)) s0.c0 w0 es0 s0.ver)) (cnd (Int.ofNat x19.toNat == 40) (l (.l2 s0.c1 1 (List.take (s0.c0.length - s0.c1.toNat) (List.drop s0.c1.toNat s0.c0)) s0.c0 w0 es0 s0.ver)) (cnd (Int.ofNat x19.toNat == 41) (l (.l2 s0.c1 1 (List.take (s0.c0.length - s0.c1.toNat) (List.drop s0.c1.toNat s0.c0)) s0.c0 w0 es0 s0.ver)) (cnd (Int.ofNat x19.toNat == 44) (l (.l2 s0.c1 1 (List.take (s0.c0.length - s0.c1.toNat) (List.drop s0.c1.toNat s0.c0)) s0.c0 w0 es0 s0.ver)) (cnd (Int.ofNat x19.toNat == 59) (l (.l2 s0.c1 1 (List.take (s0.c0.length - s0.c1.toNat) (List.drop s0.c1.toNat s0.c0)) s0.c0 w0 es0 s0.ver)) (cnd (Int.ofNat x19.toNat == 46) (l (.l2 s0.c1 1 (List.take (s0.c0.length - s0.c1.toNat) (List.drop s0.c1.toNat s0.c0)) s0.c0 w0 es0 s0.ver)) (cnd (Int.ofNat x19.toNat == 42) (l (.l2 s0.c1 1 (List.take (s0.c0.length - s0.c1.toNat) (List.drop s0.c1.toNat s0.c0)) s0.c0 w0 es0 s0.ver)) (cnd (Int.ofNat x19.toNat == 43) (l (.l2 s0.c1 1 (List.take (s0.c0.length - s0.c1.toNat) (List.drop s0.c1.toNat s0.c0)) s0.c0 w0 es0 s0.ver)) (cnd (Int.ofNat x19.toNat == 45) (l (.l2 s0.c1 1 (List.take (s0.c0.length - s0.c1.toNat) (List.drop s0.c1.toNat s0.c0)) s0.c0 w0 es0 s0.ver)) (cnd (Int.ofNat x19.toNat == 47) (l (.l2 s0.c1 1 (List.take (s0.c0.length - s0.c1.toNat) (List.drop s0.c1.toNat s0.c0)) s0.c0 w0 es0 s0.ver)) (cnd (Int.ofNat x19.toNat == 37) (l (.l2 s0.c1 1 (List.take (s0.c0.length - s0.c1.toNat) (List.drop s0.c1.toNat s0.c0)) s0.c0 w0 es0 s0.ver)) (cnd (Int.ofNat x19.toNat == 61) (l (.l2 s0.c1 1 (List.take (s0.c0.length - s0.c1.toNat) (List.drop s0.c1.toNat s0.c0)) s0.c0 w0 es0 s0.ver)) (cnd (Int.ofNat x19.toNat == 123) (l (.l2 s0.c1 1 (List.take (s0.c0.length - s0.c1.toNat) (List.drop s0.c1.toNat s0.c0)) s0.c0 w0 es0 s0.ver)) (cnd (Int.ofNat x19.toNat == 125) (l (.l2 s0.c1 1 (List.take (s0.c0.length - s0.c1.toNat) (List.drop s0.c1.toNat s0.c0)) s0.c0 w0 es0 s0.ver)) (cnd (Int.ofNat x19.toNat == 58) (l (.l2 s0.c1 1 (List.take (s0.c0.length - s0.c1.toNat) (List.drop s0.c1.toNat s0.c0)) s0.c0 w0 es0 s0.ver)) (l (.l2 s0.c1 0 (List.take (s0.c0.length - s0.c1.toNat) (List.drop s0.c1.toNat s0.c0)) s0.c0 w0 es0 s0.ver)))))))))))))))))))
  | .l0 y0 y1 y2 y3 y4=>cnd (y1 == 0) (bn (S.t_form (B132.mk y3 y0 GC.n y4) y0) fun x22=>gcas x22.2.c2 (r (x22.1,(⟨x22.2.c0,x22.2.c1,.n,x22.2.ver⟩:B132))) False fun x23 w23=>r (x22.1,(⟨x22.2.c0,x22.2.c1,(.o x23 w23),x22.2.ver⟩:B132))) (an (decide (0 ≤ y1) && decide (y1 ≤ Int.ofNat y2.length)) (bn (S.t_put (B132.mk y3 (IntKind.i64.wrap (y0 + y1)) GC.n (y4 + 1)) (.agg [.int .i64 4,.str (List.take (y1.toNat - 0) (List.drop 0 y2)),.int .i64 0,.int .i64 y0])) fun x24=>gcas x24.2.c2 (r (x24.1,(⟨x24.2.c0,x24.2.c1,.n,x24.2.ver⟩:B132))) False fun x25 w25=>r (x24.1,(⟨x24.2.c0,x24.2.c1,(.o x25 w25),x24.2.ver⟩:B132))))
  | .l1 y0 y1 y2 y3=>cnd (decide (Int.ofNat y1.length > 1)) (bn (y1[1]?) fun x26=>cnd (Int.ofNat x26.toNat == 61) (l (.l0 y0 2 y1 y2 y3)) (l (.l0 y0 1 y1 y2 y3))) (l (.l0 y0 1 y1 y2 y3))
  | .l2 y0 y1 y2 y3 y4 y5 y6=>cnd (y1 == 0) (bn (S.t_form (B132.mk y3 y0 (GC.o y5 y4) y6) y0) fun x27=>gcas x27.2.c2 (r (x27.1,(⟨x27.2.c0,x27.2.c1,.n,x27.2.ver⟩:B132))) False fun x28 w28=>r (x27.1,(⟨x27.2.c0,x27.2.c1,(.o x28 w28),x27.2.ver⟩:B132))) (an (decide (0 ≤ y1) && decide (y1 ≤ Int.ofNat y2.length)) (bn (S.t_put (B132.mk y3 (IntKind.i64.wrap (y0 + y1)) (GC.o y5 y4) (y6 + 1)) (.agg [.int .i64 4,.str (List.take (y1.toNat - 0) (List.drop 0 y2)),.int .i64 0,.int .i64 y0])) fun x29=>gcas x29.2.c2 (r (x29.1,(⟨x29.2.c0,x29.2.c1,.n,x29.2.ver⟩:B132))) False fun x30 w30=>r (x29.1,(⟨x29.2.c0,x29.2.c1,(.o x30 w30),x29.2.ver⟩:B132))))
  | .l3 y0 y1 y2 y3 y4 y5=>cnd (decide (Int.ofNat y1.length > 1)) (bn (y1[1]?) fun x31=>cnd (Int.ofNat x31.toNat == 61) (l (.l2 y0 2 y1 y2 y3 y4 y5)) (l (.l2 y0 1 y1 y2 y3 y4 y5))) (l (.l2 y0 1 y1 y2 y3 y4 y5))
theorem t_mark_k (S:Fns):KOk Tryz.prog [true] 114 Tryz.f114 (enAll S) [([1,1,1,1],[(1,2),(6,65)],false),([1,0,0,0,1,0,1,1,1],[(1,2),(4,1),(6,65)],false)] 1 t_mark_at enc37 (t_mark_st S):=by intro K g v; cases v <;> kernel_rfl
theorem t_mark_m {S:Fns}:Mono (t_mark_st S):=fun _ _ _ hl v=>by cases v <;> (dsimp only [t_mark_st]; repeat' first | exact id | exact hl _ | apply imp_an | apply imp_cnd | (refine imp_bn fun _=>?_) | apply imp_fl | (refine imp_gcas ?_ ?_ fun _ _=>?_))
def t_mark_raw (S:Fns) (n:Nat) (s0:B132):Option (Int × B132):=gcas s0.c2 (rawN enc37 (t_mark_st S) n (.en s0)) (none) fun es0 w0=>rawN enc37 (t_mark_st S) n (.eo s0 es0 w0)
theorem t_mark_ok {S:Fns} (hS:FnsOk S) (n:Nat):EntryOk Tryz.prog (e37 114 (t_mark_raw S n)):=e37_ok fun ⟨_,_,g0,_⟩ r hr=>by
  rcases g0 with _ | _ | ⟨_,_⟩
  · exact gen_e prog_ok Tryz.func114 rfl hS (t_mark_k S) t_mark_m rfl rfl hr
  · exact nomatch (show (none:Option (Int × B132)) = some r from hr)
  · exact gen_e prog_ok Tryz.func114 rfl hS (t_mark_k S) t_mark_m rfl rfl hr
inductive t_pass_V where
  | en (s0:B132)
  | eo (s0:B132) (es0:List D) (w0:Nat)
  | l0 (y0:List UInt8) (y1:Int) (y2:Nat)
  | l1 (y0:List UInt8) (y1:Int) (y2:Nat) (y3:List D) (y4:Nat)
  | l2 (y0:List UInt8) (y1:Int) (y2:Nat)
  | l3 (y0:List UInt8) (y1:Int) (y2:Nat) (y3:List D) (y4:Nat)
def t_pass_at:t_pass_V → Pth × List AV × Heap
  | .en s0=>([],startT Tryz.f76 [.ptr (some (0,0))],[some (.cells 132 [.dat (.str (s0).c0),.dat (.int .i64 (s0).c1),.dat .nils] s0.ver)])
  | .eo s0 es0 w0=>([],startT Tryz.f76 [.ptr (some (0,0))],[some (.cells 132 [.dat (.str (s0).c0),.dat (.int .i64 (s0).c1),.own (.at 0 2 w0 107) es0] s0.ver)])
  | .l0 y0 y1 y2=>([1,0],mkT 72 [(0,.ptr (some (0,0)))],[some (.cells 132 [.dat (.str y0),.dat (.int .i64 y1),.dat .nils] y2)])
  | .l1 y0 y1 y2 y3 y4=>([1,0],mkT 72 [(0,.ptr (some (0,0)))],[some (.cells 132 [.dat (.str y0),.dat (.int .i64 y1),.own (.at 0 2 y2 107) y3] y4)])
  | .l2 y0 y1 y2=>([0,0,1,0],mkT 72 [(0,.ptr (some (0,0)))],[some (.cells 132 [.dat (.str y0),.dat (.int .i64 y1),.dat .nils] y2)])
  | .l3 y0 y1 y2 y3 y4=>([0,0,1,0],mkT 72 [(0,.ptr (some (0,0)))],[some (.cells 132 [.dat (.str y0),.dat (.int .i64 y1),.own (.at 0 2 y2 107) y3] y4)])
def t_pass_st (S:Fns) (r:B132 → Prop) (l:t_pass_V → Prop):t_pass_V → Prop
  | .en s0=>l (.l0 s0.c0 s0.c1 s0.ver)
  | .eo s0 es0 w0=>l (.l1 s0.c0 s0.c1 w0 es0 s0.ver)
  | .l0 y0 y1 y2=>l (.l2 y0 y1 y2)
  | .l1 y0 y1 y2 y3 y4=>l (.l3 y0 y1 y2 y3 y4)
  | .l2 y0 y1 y2=>cnd (decide (y1 < Int.ofNat y0.length)) (cnd (decide (y1 < 0)) False (bn (y0[y1.toNat]?) fun x12=>bn (S.g_IndexByte [32,9,10,13] (Int.ofNat x12.toNat)) fun x13=>cnd (decide (x13 ≥ 0)) (l (.l2 y0 (IntKind.i64.wrap (y1 + 1)) (y2 + 1))) (an (decide (0 ≤ y1) && decide (y1 ≤ Int.ofNat y0.length)) (bn (S.g_HasPrefix (List.take (y0.length - y1.toNat) (List.drop y1.toNat y0)) [45,45]) fun x14=>cnd (!x14) (r (⟨y0,y1,.n,y2⟩:B132)) (an (decide (0 ≤ y1) && decide (y1 ≤ Int.ofNat y0.length)) (bn (S.g_IndexByte (List.take (y0.length - y1.toNat) (List.drop y1.toNat y0)) 10) fun x15=>cnd (decide (x15 ≥ 0)) (l (.l0 y0 (IntKind.i64.wrap (y1 + x15)) (y2 + 1))) (r (⟨y0,(Int.ofNat y0.length),.n,y2 + 1⟩:B132)))))))) (an (decide (0 ≤ y1) && decide (y1 ≤ Int.ofNat y0.length)) (bn (S.g_HasPrefix (List.take (y0.length - y1.toNat) (List.drop y1.toNat y0)) [45,45]) fun x16=>cnd (!x16) (r (⟨y0,y1,.n,y2⟩:B132)) (an (decide (0 ≤ y1) && decide (y1 ≤ Int.ofNat y0.length)) (bn (S.g_IndexByte (List.take (y0.length - y1.toNat) (List.drop y1.toNat y0)) 10) fun x17=>cnd (decide (x17 ≥ 0)) (l (.l0 y0 (IntKind.i64.wrap (y1 + x17)) (y2 + 1))) (r (⟨y0,(Int.ofNat y0.length),.n,y2 + 1⟩:B132))))))
  | .l3 y0 y1 y2 y3 y4=>cnd (decide (y1 < Int.ofNat y0.length)) (cnd (decide (y1 < 0)) False (bn (y0[y1.toNat]?) fun x18=>bn (S.g_IndexByte [32,9,10,13] (Int.ofNat x18.toNat)) fun x19=>cnd (decide (x19 ≥ 0)) (l (.l3 y0 (IntKind.i64.wrap (y1 + 1)) y2 y3 (y4 + 1))) (an (decide (0 ≤ y1) && decide (y1 ≤ Int.ofNat y0.length)) (bn (S.g_HasPrefix (List.take (y0.length - y1.toNat) (List.drop y1.toNat y0)) [45,45]) fun x20=>cnd (!x20) (r (⟨y0,y1,(.o y3 y2),y4⟩:B132)) (an (decide (0 ≤ y1) && decide (y1 ≤ Int.ofNat y0.length)) (bn (S.g_IndexByte (List.take (y0.length - y1.toNat) (List.drop y1.toNat y0)) 10) fun x21=>cnd (decide (x21 ≥ 0)) (l (.l1 y0 (IntKind.i64.wrap (y1 + x21)) y2 y3 (y4 + 1))) (r (⟨y0,(Int.ofNat y0.length),(.o y3 y2),y4 + 1⟩:B132)))))))) (an (decide (0 ≤ y1) && decide (y1 ≤ Int.ofNat y0.length)) (bn (S.g_HasPrefix (List.take (y0.length - y1.toNat) (List.drop y1.toNat y0)) [45,45]) fun x22=>cnd (!x22) (r (⟨y0,y1,(.o y3 y2),y4⟩:B132)) (an (decide (0 ≤ y1) && decide (y1 ≤ Int.ofNat y0.length)) (bn (S.g_IndexByte (List.take (y0.length - y1.toNat) (List.drop y1.toNat y0)) 10) fun x23=>cnd (decide (x23 ≥ 0)) (l (.l1 y0 (IntKind.i64.wrap (y1 + x23)) y2 y3 (y4 + 1))) (r (⟨y0,(Int.ofNat y0.length),(.o y3 y2),y4 + 1⟩:B132))))))
theorem t_pass_k (S:Fns):KOk Tryz.prog [true] 76 Tryz.f76 (enAll S) [([1,0],[(1,71)],false),([0,0,1,0],[(1,71)],false)] 1 t_pass_at enc36 (t_pass_st S):=by intro K g v; cases v <;> kernel_rfl
theorem t_pass_m {S:Fns}:Mono (t_pass_st S):=fun _ _ _ hl v=>by cases v <;> (dsimp only [t_pass_st]; repeat' first | exact id | exact hl _ | apply imp_an | apply imp_cnd | (refine imp_bn fun _=>?_) | apply imp_fl | (refine imp_gcas ?_ ?_ fun _ _=>?_))
def t_pass_raw (S:Fns) (n:Nat) (s0:B132):Option (B132):=gcas s0.c2 (rawN enc36 (t_pass_st S) n (.en s0)) (none) fun es0 w0=>rawN enc36 (t_pass_st S) n (.eo s0 es0 w0)
theorem t_pass_ok {S:Fns} (hS:FnsOk S) (n:Nat):EntryOk Tryz.prog (e36 76 (t_pass_raw S n)):=e36_ok fun ⟨_,_,g0,_⟩ r hr=>by
  rcases g0 with _ | _ | ⟨_,_⟩
  · exact gen_e prog_ok Tryz.func76 rfl hS (t_pass_k S) t_pass_m rfl rfl hr
  · exact nomatch (show (none:Option (B132)) = some r from hr)
  · exact gen_e prog_ok Tryz.func76 rfl hS (t_pass_k S) t_pass_m rfl rfl hr
inductive t_Word_V where
  | e (a0:List UInt8)
def t_Word_at:t_Word_V → Pth × List AV × Heap
  | .e a0=>([],startT Tryz.f128 [.dat (.str a0)],[])
def t_Word_st (S:Fns) (r:Bool → Prop) (l:t_Word_V → Prop):t_Word_V → Prop
  | .e a0=>cnd (a0 == [97,108,108]) (r true) (cnd (a0 == [97,110,100]) (r true) (cnd (a0 == [97,115]) (r true) (cnd (a0 == [98,101,103,105,110]) (r true) (cnd (a0 == [98,101,103,105,110,115]) (r true) (cnd (a0 == [98,101,116,119,101,101,110]) (r true) (cnd (a0 == [98,121]) (r true) (cnd (a0 == [99,97,108,108]) (r true) (cnd (a0 == [99,97,115,101]) (r true) (cnd (a0 == [99,97,116,99,104]) (r true) (cnd (a0 == [99,111,109,109,105,116]) (r true) (cnd (a0 == [100,101,108,101,116,101]) (r true) (cnd (a0 == [100,101,115,99]) (r true) (cnd (a0 == [100,105,115,116,105,110,99,116]) (r true) (cnd (a0 == [101,108,115,101]) (r true) (cnd (a0 == [101,110,100]) (r true) (cnd (a0 == [101,120,99,101,112,116]) (r true) (cnd (a0 == [101,120,105,115,116,115]) (r true) (cnd (a0 == [102,111,114]) (r true) (cnd (a0 == [102,114,111,109]) (r true) (cnd (a0 == [103,114,111,117,112]) (r true) (cnd (a0 == [104,97,118,105,110,103]) (r true) (cnd (a0 == [104,105,100,101]) (r true) (cnd (a0 == [105,102]) (r true) (cnd (a0 == [105,110]) (r true) (cnd (a0 == [105,110,112,117,116]) (r true) (cnd (a0 == [105,110,115,101,114,116]) (r true) (cnd (a0 == [105,110,116]) (r true) (cnd (a0 == [105,110,116,111]) (r true) (cnd (a0 == [105,110,116,101,114,115,101,99,116]) (r true) (cnd (a0 == [105,115]) (r true) (cnd (a0 == [106,111,105,110]) (r true) (cnd (a0 == [107,101,121]) (r true) (cnd (a0 == [108,101,102,116]) (r true) (cnd (a0 == [108,101,118,101,108]) (r true) (cnd (a0 == [108,101,118,101,108,115]) (r true) (cnd (a0 == [108,105,109,105,116]) (r true) (cnd (a0 == [110,111,116]) (r true) (cnd (a0 == [110,117,108,108]) (r true) (cnd (a0 == [111,110]) (r true) (cnd (a0 == [111,114]) (r true) (cnd (a0 == [111,114,100,101,114]) (r true) (cnd (a0 == [112,114,105,110,99,105,112,97,108]) (r true) (cnd (a0 == [112,114,105,110,116]) (r true) (cnd (a0 == [112,114,111,99]) (r true) (cnd (a0 == [114,97,105,115,101]) (r true) (cnd (a0 == [114,111,108,108,98,97,99,107]) (r true) (cnd (a0 == [114,111,119,115]) (r true) (cnd (a0 == [115,101,108,101,99,116]) (r true) (cnd (a0 == [115,101,116]) (r true) (cnd (a0 == [116,97,98,108,101]) (r true) (cnd (a0 == [116,101,120,116]) (r true) (cnd (a0 == [116,104,101,110]) (r true) (cnd (a0 == [116,114,117,101]) (r true) (cnd (a0 == [116,114,121]) (r true) (cnd (a0 == [102,97,108,115,101]) (r true) (cnd (a0 == [98,111,111,108]) (r true) (cnd (a0 == [117,110,105,111,110]) (r true) (cnd (a0 == [117,112,100,97,116,101]) (r true) (cnd (a0 == [118,97,108,117,101,115]) (r true) (cnd (a0 == [118,97,114]) (r true) (cnd (a0 == [118,105,115,105,98,108,101]) (r true) (cnd (a0 == [119,104,101,110]) (r true) (cnd (a0 == [119,104,101,114,101]) (r true) (cnd (a0 == [119,104,105,108,101]) (r true) (cnd (a0 == [99,104,97,110,110,101,108]) (r true) (cnd (a0 == [115,107,105,112]) (r true) (r false)))))))))))))))))))))))))))))))))))))))))))))))))))))))))))))))))))
theorem t_Word_k (S:Fns):KOk Tryz.prog [] 128 Tryz.f128 (enAll S) [] 0 t_Word_at enc10 (t_Word_st S):=by intro K g v; cases v <;> kernel_rfl
def t_Word_raw (S:Fns) (n:Nat) (a0:List UInt8):Option (Bool):=rawN enc10 (t_Word_st S) n (.e a0)
theorem t_Word_ok {S:Fns} (hS:FnsOk S) (n:Nat):EntryOk Tryz.prog (e10 128 (t_Word_raw S n)):=e10_ok fun _ _ hr=>gen_e prog_ok Tryz.func128 rfl hS (t_Word_k S) (fun _ _ _ _ v=>by cases v <;> exact id) rfl rfl hr
inductive r_SameQuery_V where
  | e (a0:D) (a1:D)
  | l0 (y0:Int) (y1:D) (y2:D)
  | l1 (y0:Int) (y1:D) (y2:D)
def r_SameQuery_at:r_SameQuery_V → Pth × List AV × Heap
  | .e a0 a1=>([],startT Tryz.f13 [.dat (G 38 a0),.dat (G 38 a1)],[])
  | .l0 y0 y1 y2=>([0,1,0,1,1],mkT 149 [(2,.ptr (some (0,0))),(3,.ptr (some (1,0))),(5,.dat (.int .i64 y0))],[some (sbx 38 y1 0),some (sbx 38 y2 0)])
  | .l1 y0 y1 y2=>([0,1,0,1,1,1],mkT 149 [(2,.ptr (some (0,0))),(3,.ptr (some (1,0))),(6,.dat (.int .i64 y0))],[some (sbx 38 y1 0),some (sbx 38 y2 0)])
def r_SameQuery_st (S:Fns) (r:Bool → Prop) (l:r_SameQuery_V → Prop):r_SameQuery_V → Prop
  | .e a0 a1=>cnd (cI a0 0 != cI a1 0) (r false) (cnd (!cB a0 1 == cB a1 1) (r false) (cnd (cI a0 8 != cI a1 8) (r false) (bn (asL (cel a0 2)) fun x54=>bn (asL (cel a1 2)) fun x55=>cnd (Int.ofNat x54.length != Int.ofNat x55.length) (r false) (bn (asL (cel a0 7)) fun x56=>bn (asL (cel a1 7)) fun x57=>cnd (Int.ofNat x56.length != Int.ofNat x57.length) (r false) (l (.l0 0 a0 a1))))))
  | .l0 y0 y1 y2=>bn (asL (cel y1 2)) fun x58=>cnd (decide (y0 < Int.ofNat x58.length)) (bn (asL (cel y1 2)) fun x59=>bn (atD x59 y0) fun x60=>an (okG 83 x60) (bn (asL (cel y2 2)) fun x61=>bn (atD x61 y0) fun x62=>an (okG 83 x62) (cnd (!cS x60 6 == cS x62 6) (r false) (bn (asL (cel y1 2)) fun x63=>bn (atD x63 y0) fun x64=>an (okG 83 x64) (bn (asL (cel y2 2)) fun x65=>bn (atD x65 y0) fun x66=>an (okG 83 x66) (an (okG 26 (G 26 x64)) (an (okG 26 (G 26 x66)) (bn (S.r_SameExpr (G 26 x64) (G 26 x66)) fun x67=>cnd (!x67) (r false) (l (.l0 (IntKind.i64.wrap (y0 + 1)) y1 y2)))))))))) (l (.l1 0 y1 y2))
  | .l1 y0 y1 y2=>bn (asL (cel y1 7)) fun x68=>cnd (decide (y0 < Int.ofNat x68.length)) (bn (asL (cel y1 7)) fun x69=>bn (atD x69 y0) fun x70=>an (okG 85 x70) (bn (asL (cel y2 7)) fun x71=>bn (atD x71 y0) fun x72=>an (okG 85 x72) (cnd (!cB x70 6 == cB x72 6) (r false) (bn (asL (cel y1 7)) fun x73=>bn (atD x73 y0) fun x74=>an (okG 85 x74) (bn (asL (cel y2 7)) fun x75=>bn (atD x75 y0) fun x76=>an (okG 85 x76) (an (okG 26 (G 26 x74)) (an (okG 26 (G 26 x76)) (bn (S.r_SameExpr (G 26 x74) (G 26 x76)) fun x77=>cnd (!x77) (r false) (l (.l1 (IntKind.i64.wrap (y0 + 1)) y1 y2)))))))))) (bn (S.r_SameFroms (cel y1 3) (cel y2 3)) fun x78=>cnd x78 (bn (S.r_SameExprs (cel y1 4) (cel y2 4)) fun x79=>cnd x79 (bn (S.r_SameExprs (cel y1 5) (cel y2 5)) fun x80=>cnd x80 (bn (S.r_SameExprs (cel y1 6) (cel y2 6)) fun x81=>cnd x81 (bn (S.r_SameQueries (cel y1 9) (cel y2 9)) fun x82=>r x82) (r false)) (r false)) (r false)) (r false))
theorem r_SameQuery_k (S:Fns):KOk Tryz.prog [] 13 Tryz.f13 (enAll S) [([0,1,0,1,1],[(0,2),(4,1),(6,143)],false),([0,1,0,1,1,1],[(0,2),(4,2),(7,142)],false)] 0 r_SameQuery_at enc29 (r_SameQuery_st S):=by intro K g v; cases v <;> kernel_rfl
theorem r_SameQuery_m {S:Fns}:Mono (r_SameQuery_st S):=fun _ _ _ hl v=>by cases v <;> (dsimp only [r_SameQuery_st]; repeat' first | exact id | exact hl _ | apply imp_an | apply imp_cnd | (refine imp_bn fun _=>?_) | apply imp_fl | (refine imp_gcas ?_ ?_ fun _ _=>?_))
def r_SameQuery_raw (S:Fns) (n:Nat) (a0:D) (a1:D):Option (Bool):=rawN enc29 (r_SameQuery_st S) n (.e a0 a1)
theorem r_SameQuery_ok {S:Fns} (hS:FnsOk S) (n:Nat):EntryOk Tryz.prog (e29 13 38 38 (r_SameQuery_raw S n)):=e29_ok fun _ _ _ hr=>gen_e prog_ok Tryz.func13 rfl hS (r_SameQuery_k S) r_SameQuery_m rfl rfl hr
inductive s_left_prod_V where
  | e (s0:B105) (a3:D)
  | l0 (y0:D) (y1:B105) (y2:D) (y3:Nat)
  | l1 (y0:D) (y1:Int) (y2:Int) (y3:B105) (y4:D) (y5:Nat)
def s_left_prod_at:s_left_prod_V → Pth × List AV × Heap
  | .e s0 a3=>([],startT Tryz.f46 [.ptr (some (0,0)),.func (.func 148) [.ptr (some (0,0))] [],.func (.func 87) [.ptr (some (0,0))] [],.dat a3],[b105 s0 0])
  | .l0 y0 y1 y2 y3=>([1,1,0,1],mkT 30 [(1,.func (.func 148) [.ptr (some (0,0))] []),(2,.func (.func 87) [.ptr (some (0,0))] []),(3,.dat y0),(8,.ptr (some (1,0))),(9,.ptr (some (2,0)))],[some (o105 y1 0),some (.cells 26 [.dat (.int .i64 0),.dat (.int .i64 0),.dat (.str []),.dat (.str []),.dat .nils,.dat .nils] 0),some (sbx 26 y2 y3)])
  | .l1 y0 y1 y2 y3 y4 y5=>([0,1,0,1,1,0,1],mkT 30 [(1,.func (.func 148) [.ptr (some (0,0))] []),(2,.func (.func 87) [.ptr (some (0,0))] []),(3,.dat y0),(8,.ptr (some (1,0))),(9,.ptr (some (2,0))),(14,.dat y0),(15,.dat (.int .i64 y1)),(16,.dat (.int .i64 y2))],[some (o105 y3 0),some (.cells 26 [.dat (.int .i64 0),.dat (.int .i64 0),.dat (.str []),.dat (.str []),.dat .nils,.dat .nils] 0),some (sbx 26 y4 y5)])
def s_left_prod_st (S:Fns) (r:D × B105 → Prop) (l:s_left_prod_V → Prop):s_left_prod_V → Prop
  | .e s0 a3=>bn (S.s_unary s0) fun x15=>an (okG 26 x15.1) (fl x15.1 [4,5] (l (.l0 a3 x15.2 x15.1 6)))
  | .l0 y0 y1 y2 y3=>bn (asL y0) fun x16=>l (.l1 y0 (Int.ofNat x16.length) 0 y1 y2 y3)
  | .l1 y0 y1 y2 y3 y4 y5=>cnd (decide (y2 < y1)) (bn (asL y0) fun x17=>bn (atD x17 y2) fun x18=>an x18.flat (bn (asS x18) fun x19=>bn (S.s_mark y3 x19) fun x20=>cnd x20.1 (bn (S.s_unary x20.2) fun x21=>an (okG 26 x21.1) (an (okG 26 (G 26 y4)) (an (okG 26 (G 26 x21.1)) (bn (S.s_bin x19 (G 26 y4) (G 26 x21.1)) fun x22=>an (okG 26 x22) (fl x22 [4,5] (l (.l0 y0 x21.2 x22 (y5 + 6)))))))) (l (.l1 y0 y1 (IntKind.i64.wrap (y2 + 1)) x20.2 y4 y5)))) (fl y4 [4,5] (r ((G 26 y4),y3)))
theorem s_left_prod_k (S:Fns):KOk Tryz.prog [] 46 Tryz.f46 (enAll S) [([1,1,0,1],[(0,1),(4,4),(10,20)],false),([0,1,0,1,1,0,1],[(0,1),(4,4),(10,4),(17,13)],false)] 1 s_left_prod_at enc12 (s_left_prod_st S):=by intro K g v; cases v <;> kernel_rfl
theorem s_left_prod_m {S:Fns}:Mono (s_left_prod_st S):=fun _ _ _ hl v=>by cases v <;> (dsimp only [s_left_prod_st]; repeat' first | exact id | exact hl _ | apply imp_an | apply imp_cnd | (refine imp_bn fun _=>?_) | apply imp_fl | (refine imp_gcas ?_ ?_ fun _ _=>?_))
def s_left_prod_raw (S:Fns) (n:Nat) (s0:B105) (a3:D):Option (D × B105):=rawN enc12 (s_left_prod_st S) n (.e s0 a3)
theorem s_left_prod_ok {S:Fns} (hS:FnsOk S) (n:Nat):EntryOk Tryz.prog (e12 46 148 87 26 (s_left_prod_raw S n)):=e12_ok fun _ _ _ hr=>gen_e prog_ok Tryz.func46 rfl hS (s_left_prod_k S) s_left_prod_m rfl rfl hr
inductive s_list_item_V where
  | e (s0:B105)
  | l0 (y0:List D) (y1:B105)
  | l1 (y0:List D) (y1:B105) (y2:Nat)
def s_list_item_at:s_list_item_V → Pth × List AV × Heap
  | .e s0=>([],startT Tryz.f89 [.ptr (some (0,0)),.func (.func 90) [.ptr (some (0,0))] []],[b105 s0 0])
  | .l0 y0 y1=>([0,0,1,1],mkT 17 [(0,.ptr (some (0,0))),(1,.func (.func 90) [.ptr (some (0,0))] []),(5,.own .full y0)],[some (o105 y1 0)])
  | .l1 y0 y1 y2=>([0,0,1,1],mkT 17 [(0,.ptr (some (0,0))),(1,.func (.func 90) [.ptr (some (0,0))] []),(5,.own (.tip 1) y0)],[some (o105 y1 0),some (.tip 83 y2 7)])
def s_list_item_st (S:Fns) (r:D × B105 → Prop) (l:s_list_item_V → Prop):s_list_item_V → Prop
  | .e s0=>bn (S.s_item s0) fun x5=>an (okG 83 x5.1) (l (.l0 [G 83 x5.1] x5.2))
  | .l0 y0 y1=>bn (S.s_mark y1 [44]) fun x6=>cnd x6.1 (bn (S.s_item x6.2) fun x7=>an (okG 83 x7.1) (fl x7.1 [4,5] (an (sized 7 y0) (an (roomOk (y0.length + 1) 112) (l (.l1 (y0 ++ [G 83 x7.1]) x7.2 (y0.length + 1))))))) (r ((.slice y0),x6.2))
  | .l1 y0 y1 y2=>bn (S.s_mark y1 [44]) fun x8=>cnd x8.1 (bn (S.s_item x8.2) fun x9=>an (okG 83 x9.1) (fl x9.1 [4,5] (an (y2 == y0.length) (an (roomOk (y2 + 1) 112) (l (.l1 (y0 ++ [G 83 x9.1]) x9.2 (y2 + 1))))))) (r ((.slice y0),x8.2))
theorem s_list_item_k (S:Fns):KOk Tryz.prog [] 89 Tryz.f89 (enAll S) [([0,0,1,1],[(2,3),(6,11)],false)] 1 s_list_item_at enc15 (s_list_item_st S):=by intro K g v; cases v <;> kernel_rfl
theorem s_list_item_m {S:Fns}:Mono (s_list_item_st S):=fun _ _ _ hl v=>by cases v <;> (dsimp only [s_list_item_st]; repeat' first | exact id | exact hl _ | apply imp_an | apply imp_cnd | (refine imp_bn fun _=>?_) | apply imp_fl | (refine imp_gcas ?_ ?_ fun _ _=>?_))
def s_list_item_raw (S:Fns) (n:Nat) (s0:B105):Option (D × B105):=rawN enc15 (s_list_item_st S) n (.e s0)
theorem s_list_item_ok {S:Fns} (hS:FnsOk S) (n:Nat):EntryOk Tryz.prog (e15 89 90 (s_list_item_raw S n)):=e15_ok fun _ _ hr=>gen_e prog_ok Tryz.func89 rfl hS (s_list_item_k S) s_list_item_m rfl rfl hr
inductive s_list_name_V where
  | e (s0:B105)
  | l0 (y0:List D) (y1:B105)
  | l1 (y0:List D) (y1:B105) (y2:Nat)
def s_list_name_at:s_list_name_V → Pth × List AV × Heap
  | .e s0=>([],startT Tryz.f65 [.ptr (some (0,0)),.func (.func 66) [.ptr (some (0,0))] []],[b105 s0 0])
  | .l0 y0 y1=>([0,0,1,1],mkT 17 [(0,.ptr (some (0,0))),(1,.func (.func 66) [.ptr (some (0,0))] []),(5,.own .full y0)],[some (o105 y1 0)])
  | .l1 y0 y1 y2=>([0,0,1,1],mkT 17 [(0,.ptr (some (0,0))),(1,.func (.func 66) [.ptr (some (0,0))] []),(5,.own (.tip 1) y0)],[some (o105 y1 0),some (.tip 9 y2 1)])
def s_list_name_st (S:Fns) (r:D × B105 → Prop) (l:s_list_name_V → Prop):s_list_name_V → Prop
  | .e s0=>bn (S.s_name s0) fun x5=>l (.l0 [.str x5.1] x5.2)
  | .l0 y0 y1=>bn (S.s_mark y1 [44]) fun x6=>cnd x6.1 (bn (S.s_name x6.2) fun x7=>an (sized 1 y0) (an (roomOk (y0.length + 1) 16) (l (.l1 (y0 ++ [D.str x7.1]) x7.2 (y0.length + 1))))) (r ((.slice y0),x6.2))
  | .l1 y0 y1 y2=>bn (S.s_mark y1 [44]) fun x8=>cnd x8.1 (bn (S.s_name x8.2) fun x9=>an (y2 == y0.length) (an (roomOk (y2 + 1) 16) (l (.l1 (y0 ++ [D.str x9.1]) x9.2 (y2 + 1))))) (r ((.slice y0),x8.2))
theorem s_list_name_k (S:Fns):KOk Tryz.prog [] 65 Tryz.f65 (enAll S) [([0,0,1,1],[(2,3),(6,11)],false)] 1 s_list_name_at enc15 (s_list_name_st S):=by intro K g v; cases v <;> kernel_rfl
theorem s_list_name_m {S:Fns}:Mono (s_list_name_st S):=fun _ _ _ hl v=>by cases v <;> (dsimp only [s_list_name_st]; repeat' first | exact id | exact hl _ | apply imp_an | apply imp_cnd | (refine imp_bn fun _=>?_) | apply imp_fl | (refine imp_gcas ?_ ?_ fun _ _=>?_))
def s_list_name_raw (S:Fns) (n:Nat) (s0:B105):Option (D × B105):=rawN enc15 (s_list_name_st S) n (.e s0)
theorem s_list_name_ok {S:Fns} (hS:FnsOk S) (n:Nat):EntryOk Tryz.prog (e15 65 66 (s_list_name_raw S n)):=e15_ok fun _ _ hr=>gen_e prog_ok Tryz.func65 rfl hS (s_list_name_k S) s_list_name_m rfl rfl hr
inductive t_put_V where
  | en (s0:B132) (a1:D)
  | eo (s0:B132) (a1:D) (es0:List D) (w0:Nat)
def t_put_at:t_put_V → Pth × List AV × Heap
  | .en s0 a1=>([],startT Tryz.f78 [.ptr (some (0,0)),.dat (G 107 a1)],[some (.cells 132 [.dat (.str (s0).c0),.dat (.int .i64 (s0).c1),.dat .nils] s0.ver)])
  | .eo s0 a1 es0 w0=>([],startT Tryz.f78 [.ptr (some (0,0)),.dat (G 107 a1)],[some (.cells 132 [.dat (.str (s0).c0),.dat (.int .i64 (s0).c1),.own (.at 0 2 w0 107) es0] s0.ver)])
def t_put_st (S:Fns) (r:Int × B132 → Prop) (l:t_put_V → Prop):t_put_V → Prop
  | .en s0 a1=>r (0,(⟨s0.c0,s0.c1,(.o [G 107 a1] s0.ver),s0.ver + 1⟩:B132))
  | .eo s0 a1 es0 w0=>cnd (Int.ofNat es0.length == 6000) (r (8,(⟨s0.c0,(cI a1 3),(.o es0 w0),s0.ver + 1⟩:B132))) (an (w0.beq w0) (an (es0.length.beq es0.length) (cnd es0.isEmpty False (an (sized 4 es0) (an (roomOk (es0.length + 1) 40) (an ((es0.length + 1).beq (es0 ++ [G 107 a1]).length) (r (0,(⟨s0.c0,s0.c1,(.o (es0 ++ [G 107 a1]) s0.ver),s0.ver + 1⟩:B132)))))))))
theorem t_put_k (S:Fns):KOk Tryz.prog [true] 78 Tryz.f78 (enAll S) [] 1 t_put_at enc38 (t_put_st S):=by intro K g v; cases v <;> kernel_rfl
def t_put_raw (S:Fns) (n:Nat) (s0:B132) (a1:D):Option (Int × B132):=gcas s0.c2 (rawN enc38 (t_put_st S) n (.en s0 a1)) (none) fun es0 w0=>rawN enc38 (t_put_st S) n (.eo s0 a1 es0 w0)
theorem t_put_ok {S:Fns} (hS:FnsOk S) (n:Nat):EntryOk Tryz.prog (e38 78 107 (t_put_raw S n)):=e38_ok fun ⟨_,_,g0,_⟩ _ r hr=>by
  rcases g0 with _ | _ | ⟨_,_⟩
  · exact gen_e prog_ok Tryz.func78 rfl hS (t_put_k S) (fun _ _ _ _ v=>by cases v <;> exact id) rfl rfl hr
  · exact nomatch (show (none:Option (Int × B132)) = some r from hr)
  · exact gen_e prog_ok Tryz.func78 rfl hS (t_put_k S) (fun _ _ _ _ v=>by cases v <;> exact id) rfl rfl hr
inductive b_copyCheck_V where
  | en (s0:B167)
  | em (s0:B167)
  | eo (s0:B167) (es0:List D) (w0:Nat)
def b_copyCheck_at:b_copyCheck_V → Pth × List AV × Heap
  | .en s0=>([],startT Tryz.f147 [.ptr (some (0,0))],[some (.cells 167 [.ptr none,.dat .nils] s0.ver)])
  | .em s0=>([],startT Tryz.f147 [.ptr (some (0,0))],[some (.cells 167 [.ptr (some (0,0)),.dat .nils] s0.ver)])
  | .eo s0 es0 w0=>([],startT Tryz.f147 [.ptr (some (0,0))],[some (.cells 167 [.ptr (some (0,0)),.own (.at 0 1 w0 5) es0] s0.ver)])
def b_copyCheck_st (S:Fns) (r:B167 → Prop) (l:b_copyCheck_V → Prop):b_copyCheck_V → Prop
  | .en s0=>r (⟨.m,s0.ver + 1⟩:B167)
  | .em s0=>r (⟨.m,s0.ver⟩:B167)
  | .eo s0 es0 w0=>r (⟨(.o es0 w0),s0.ver⟩:B167)
theorem b_copyCheck_k (S:Fns):KOk Tryz.prog [true] 147 Tryz.f147 (enAll S) [] 1 b_copyCheck_at enc43 (b_copyCheck_st S):=by intro K g v; cases v <;> kernel_rfl
def b_copyCheck_raw (S:Fns) (n:Nat) (s0:B167):Option (B167):=gcas s0.c1 (rawN enc43 (b_copyCheck_st S) n (.en s0)) (rawN enc43 (b_copyCheck_st S) n (.em s0)) fun es0 w0=>rawN enc43 (b_copyCheck_st S) n (.eo s0 es0 w0)
theorem b_copyCheck_ok {S:Fns} (hS:FnsOk S) (n:Nat):EntryOk Tryz.prog (e43 147 (b_copyCheck_raw S n)):=e43_ok fun ⟨g0,_⟩ r hr=>by
  rcases g0 with _ | _ | ⟨_,_⟩
  · exact gen_e prog_ok Tryz.func147 rfl hS (b_copyCheck_k S) (fun _ _ _ _ v=>by cases v <;> exact id) rfl rfl hr
  · exact gen_e prog_ok Tryz.func147 rfl hS (b_copyCheck_k S) (fun _ _ _ _ v=>by cases v <;> exact id) rfl rfl hr
  · exact gen_e prog_ok Tryz.func147 rfl hS (b_copyCheck_k S) (fun _ _ _ _ v=>by cases v <;> exact id) rfl rfl hr
inductive s_readQ_V where
  | e (a0:List UInt8) (a1:Int)
def s_readQ_at:s_readQ_V → Pth × List AV × Heap
  | .e a0 a1=>([],startT Tryz.f28 [.dat (.str a0),.dat (.int .i64 a1),.func (.func 29) [] []],[])
def s_readQ_st (S:Fns) (r:D × Int × Int → Prop) (l:s_readQ_V → Prop):s_readQ_V → Prop
  | .e a0 a1=>bn (S.t_Scan a0) fun x4=>cnd (x4.2.2 != 0) (r ((.agg [.int .i64 0,.bool false,.nils,.nils,.nils,.nils,.nils,.nils,.int .i64 0,.nils]),x4.2.1,x4.2.2)) (an x4.1.flat (bn (S.s_Query1 (B105.mk x4.1 0 a1 0 0)) fun x5=>an (okG 38 x5.1) (fl x5.1 [2,3,4,5,6,7,9] (bn (S.s_now x5.2) fun x6=>an (okG 107 x6.1) (cnd (cI x6.1 0 != 0) (bn (S.s_fail x6.2 10) fun x7=>cnd (x7.c4 != 0) (r ((.agg [.int .i64 0,.bool false,.nils,.nils,.nils,.nils,.nils,.nils,.int .i64 0,.nils]),x7.c3,x7.c4)) (fl x5.1 [2,3,4,5,6,7,9] (r ((G 38 x5.1),0,0)))) (cnd (x6.2.c4 != 0) (r ((.agg [.int .i64 0,.bool false,.nils,.nils,.nils,.nils,.nils,.nils,.int .i64 0,.nils]),x6.2.c3,x6.2.c4)) (fl x5.1 [2,3,4,5,6,7,9] (r ((G 38 x5.1),0,0)))))))))
theorem s_readQ_k (S:Fns):KOk Tryz.prog [] 28 Tryz.f28 (enAll S) [] 0 s_readQ_at enc16 (s_readQ_st S):=by intro K g v; cases v <;> kernel_rfl
def s_readQ_raw (S:Fns) (n:Nat) (a0:List UInt8) (a1:Int):Option (D × Int × Int):=rawN enc16 (s_readQ_st S) n (.e a0 a1)
theorem s_readQ_ok {S:Fns} (hS:FnsOk S) (n:Nat):EntryOk Tryz.prog (e16 28 29 38 (s_readQ_raw S n)):=e16_ok fun _ _ _ hr=>gen_e prog_ok Tryz.func28 rfl hS (s_readQ_k S) (fun _ _ _ _ v=>by cases v <;> exact id) rfl rfl hr
inductive p_one_V where
  | e (s0:B74)
def p_one_at:p_one_V → Pth × List AV × Heap
  | .e s0=>([],startT Tryz.f123 [.ptr (some (0,0))],[b74 s0 0])
def p_one_st (S:Fns) (r:D × B74 → Prop) (l:p_one_V → Prop):p_one_V → Prop
  | .e s0=>bn (S.p_take s0 [40]) fun x9=>cnd x9.1 (bn (S.p_Query x9.2) fun x10=>an (okG 38 x10.1) (fl x10.1 [2,3,4,5,6,7,9] (bn (S.p_must x10.2 [41]) fun x11=>bn (S.p_must x11 [97,115]) fun x12=>bn (S.p_name x12) fun x13=>r ((.agg [.int .i64 2,.str [],.bool false,.str x13.1,D.slice [G 38 x10.1],.nils,.nils]),x13.2)))) (bn (S.p_name x9.2) fun x14=>bn (S.p_take x14.2 [118,105,115,105,98,108,101]) fun x15=>bn (S.p_take x15.2 [97,115]) fun x16=>cnd x16.1 (bn (S.p_name x16.2) fun x17=>r ((.agg [.int .i64 1,.str x14.1,.bool x15.1,.str x17.1,.nils,.nils,.nils]),x17.2)) (r ((.agg [.int .i64 1,.str x14.1,.bool x15.1,.str x14.1,.nils,.nils,.nils]),x16.2)))
theorem p_one_k (S:Fns):KOk Tryz.prog [] 123 Tryz.f123 (enAll S) [] 1 p_one_at enc25 (p_one_st S):=by intro K g v; cases v <;> kernel_rfl
def p_one_raw (S:Fns) (n:Nat) (s0:B74):Option (D × B74):=rawN enc25 (p_one_st S) n (.e s0)
theorem p_one_ok {S:Fns} (hS:FnsOk S) (n:Nat):EntryOk Tryz.prog (e25 123 65 (p_one_raw S n)):=e25_ok fun _ _ hr=>gen_e prog_ok Tryz.func123 rfl hS (p_one_k S) (fun _ _ _ _ v=>by cases v <;> exact id) rfl rfl hr
inductive p_is_V where
  | e (s0:B74) (a1:List UInt8)
def p_is_at:p_is_V → Pth × List AV × Heap
  | .e s0 a1=>([],startT Tryz.f59 [.ptr (some (0,0)),.dat (.str a1)],[b74 s0 0])
def p_is_st (S:Fns) (r:Bool × B74 → Prop) (l:p_is_V → Prop):p_is_V → Prop
  | .e s0 a1=>cnd (s0.c4 == 0) (bn (asL s0.c0) fun x8=>bn (atD x8 s0.c1) fun x9=>an (okG 107 x9) (cnd (cI x9 0 == 1) (bn (asL s0.c0) fun x10=>bn (atD x10 s0.c1) fun x11=>an (okG 107 x11) (r ((cS x11 1 == a1),s0))) (bn (asL s0.c0) fun x12=>bn (atD x12 s0.c1) fun x13=>an (okG 107 x13) (cnd (cI x13 0 == 4) (bn (asL s0.c0) fun x14=>bn (atD x14 s0.c1) fun x15=>an (okG 107 x15) (r ((cS x15 1 == a1),s0))) (r (false,s0)))))) (r (false,s0))
theorem p_is_k (S:Fns):KOk Tryz.prog [] 59 Tryz.f59 (enAll S) [] 1 p_is_at enc19 (p_is_st S):=by intro K g v; cases v <;> kernel_rfl
def p_is_raw (S:Fns) (n:Nat) (s0:B74) (a1:List UInt8):Option (Bool × B74):=rawN enc19 (p_is_st S) n (.e s0 a1)
theorem p_is_ok {S:Fns} (hS:FnsOk S) (n:Nat):EntryOk Tryz.prog (e19 59 (p_is_raw S n)):=e19_ok fun _ _ _ hr=>gen_e prog_ok Tryz.func59 rfl hS (p_is_k S) (fun _ _ _ _ v=>by cases v <;> exact id) rfl rfl hr
inductive g_sHasPrefix_V where
  | e (a0:List UInt8) (a1:List UInt8)
def g_sHasPrefix_at:g_sHasPrefix_V → Pth × List AV × Heap
  | .e a0 a1=>([],startT Tryz.f131 [.dat (.str a0),.dat (.str a1)],[])
def g_sHasPrefix_st (S:Fns) (r:Bool → Prop) (l:g_sHasPrefix_V → Prop):g_sHasPrefix_V → Prop
  | .e a0 a1=>cnd (decide (Int.ofNat a0.length ≥ Int.ofNat a1.length)) (an (decide (0 ≤ Int.ofNat a1.length) && decide (Int.ofNat a1.length ≤ Int.ofNat a0.length)) (r (List.take ((Int.ofNat a1.length).toNat - 0) (List.drop 0 a0) == a1))) (r false)
theorem g_sHasPrefix_k (S:Fns):KOk Tryz.prog [] 131 Tryz.f131 (enAll S) [] 0 g_sHasPrefix_at enc41 (g_sHasPrefix_st S):=by intro K g v; cases v <;> kernel_rfl
def g_sHasPrefix_raw (S:Fns) (n:Nat) (a0:List UInt8) (a1:List UInt8):Option (Bool):=rawN enc41 (g_sHasPrefix_st S) n (.e a0 a1)
theorem g_sHasPrefix_ok {S:Fns} (hS:FnsOk S) (n:Nat):EntryOk Tryz.prog (e41 131 (g_sHasPrefix_raw S n)):=e41_ok fun _ _ _ hr=>gen_e prog_ok Tryz.func131 rfl hS (g_sHasPrefix_k S) (fun _ _ _ _ v=>by cases v <;> exact id) rfl rfl hr
inductive p_End_V where
  | e (s0:B74)
def p_End_at:p_End_V → Pth × List AV × Heap
  | .e s0=>([],startT Tryz.f25 [.ptr (some (0,0))],[b74 s0 0])
def p_End_st (S:Fns) (r:Int × Int × B74 → Prop) (l:p_End_V → Prop):p_End_V → Prop
  | .e s0=>cnd (s0.c4 == 0) (bn (asL s0.c0) fun x3=>bn (atD x3 s0.c1) fun x4=>an (okG 107 x4) (cnd (cI x4 0 != 0) (bn (S.p_bad s0 10) fun x5=>cnd (x5.c4 == 0) (r (0,0,x5)) (r (x5.c3,x5.c4,x5))) (cnd (s0.c4 == 0) (r (0,0,s0)) (r (s0.c3,s0.c4,s0))))) (cnd (s0.c4 == 0) (r (0,0,s0)) (r (s0.c3,s0.c4,s0)))
theorem p_End_k (S:Fns):KOk Tryz.prog [] 25 Tryz.f25 (enAll S) [] 1 p_End_at enc27 (p_End_st S):=by intro K g v; cases v <;> kernel_rfl
def p_End_raw (S:Fns) (n:Nat) (s0:B74):Option (Int × Int × B74):=rawN enc27 (p_End_st S) n (.e s0)
theorem p_End_ok {S:Fns} (hS:FnsOk S) (n:Nat):EntryOk Tryz.prog (e27 25 (p_End_raw S n)):=e27_ok fun _ _ hr=>gen_e prog_ok Tryz.func25 rfl hS (p_End_k S) (fun _ _ _ _ v=>by cases v <;> exact id) rfl rfl hr
inductive s_bracketed_V where
  | e (s0:B105)
def s_bracketed_at:s_bracketed_V → Pth × List AV × Heap
  | .e s0=>([],startT Tryz.f116 [.ptr (some (0,0))],[b105 s0 0])
def s_bracketed_st (S:Fns) (r:D × B105 → Prop) (l:s_bracketed_V → Prop):s_bracketed_V → Prop
  | .e s0=>bn (S.s_need s0 [40]) fun x3=>bn (S.s_query x3) fun x4=>an (okG 38 x4.1) (fl x4.1 [2,3,4,5,6,7,9] (bn (S.s_need x4.2 [41]) fun x5=>fl x4.1 [2,3,4,5,6,7,9] (r ((G 38 x4.1),x5))))
theorem s_bracketed_k (S:Fns):KOk Tryz.prog [] 116 Tryz.f116 (enAll S) [] 1 s_bracketed_at enc0 (s_bracketed_st S):=by intro K g v; cases v <;> kernel_rfl
def s_bracketed_raw (S:Fns) (n:Nat) (s0:B105):Option (D × B105):=rawN enc0 (s_bracketed_st S) n (.e s0)
theorem s_bracketed_ok {S:Fns} (hS:FnsOk S) (n:Nat):EntryOk Tryz.prog (e0 116 38 (s_bracketed_raw S n)):=e0_ok fun _ _ hr=>gen_e prog_ok Tryz.func116 rfl hS (s_bracketed_k S) (fun _ _ _ _ v=>by cases v <;> exact id) rfl rfl hr
inductive s_unary_V where
  | e (s0:B105)
def s_unary_at:s_unary_V → Pth × List AV × Heap
  | .e s0=>([],startT Tryz.f148 [.ptr (some (0,0))],[b105 s0 0])
def s_unary_st (S:Fns) (r:D × B105 → Prop) (l:s_unary_V → Prop):s_unary_V → Prop
  | .e s0=>bn (S.s_mark s0 [45]) fun x3=>cnd x3.1 (bn (S.s_inner_neg x3.2 7) fun x4=>an (okG 26 x4.1) (fl x4.1 [4,5] (r ((G 26 x4.1),x4.2)))) (bn (S.s_prim x3.2) fun x5=>an (okG 26 x5.1) (fl x5.1 [4,5] (r ((G 26 x5.1),x5.2))))
theorem s_unary_k (S:Fns):KOk Tryz.prog [] 148 Tryz.f148 (enAll S) [] 1 s_unary_at enc0 (s_unary_st S):=by intro K g v; cases v <;> kernel_rfl
def s_unary_raw (S:Fns) (n:Nat) (s0:B105):Option (D × B105):=rawN enc0 (s_unary_st S) n (.e s0)
theorem s_unary_ok {S:Fns} (hS:FnsOk S) (n:Nat):EntryOk Tryz.prog (e0 148 26 (s_unary_raw S n)):=e0_ok fun _ _ hr=>gen_e prog_ok Tryz.func148 rfl hS (s_unary_k S) (fun _ _ _ _ v=>by cases v <;> exact id) rfl rfl hr
inductive s_gathers_V where
  | e (a0:List UInt8)
def s_gathers_at:s_gathers_V → Pth × List AV × Heap
  | .e a0=>([],startT Tryz.f158 [.dat (.str a0)],[])
def s_gathers_st (S:Fns) (r:Bool → Prop) (l:s_gathers_V → Prop):s_gathers_V → Prop
  | .e a0=>cnd (a0 == [99,111,117,110,116]) (r true) (cnd (a0 == [115,117,109]) (r true) (cnd (a0 == [109,105,110]) (r true) (cnd (a0 == [109,97,120]) (r true) (r false))))
theorem s_gathers_k (S:Fns):KOk Tryz.prog [] 158 Tryz.f158 (enAll S) [] 0 s_gathers_at enc10 (s_gathers_st S):=by intro K g v; cases v <;> kernel_rfl
def s_gathers_raw (S:Fns) (n:Nat) (a0:List UInt8):Option (Bool):=rawN enc10 (s_gathers_st S) n (.e a0)
theorem s_gathers_ok {S:Fns} (hS:FnsOk S) (n:Nat):EntryOk Tryz.prog (e10 158 (s_gathers_raw S n)):=e10_ok fun _ _ hr=>gen_e prog_ok Tryz.func158 rfl hS (s_gathers_k S) (fun _ _ _ _ v=>by cases v <;> exact id) rfl rfl hr
inductive s_mark_V where
  | e (s0:B105) (a1:List UInt8)
def s_mark_at:s_mark_V → Pth × List AV × Heap
  | .e s0 a1=>([],startT Tryz.f87 [.ptr (some (0,0)),.dat (.str a1)],[b105 s0 0])
def s_mark_st (S:Fns) (r:Bool × B105 → Prop) (l:s_mark_V → Prop):s_mark_V → Prop
  | .e s0 a1=>bn (S.s_sees s0 4 a1) fun x2=>cnd x2.1 (bn (S.s_next x2.2) fun x3=>r (x2.1,x3)) (r (x2.1,x2.2))
theorem s_mark_k (S:Fns):KOk Tryz.prog [] 87 Tryz.f87 (enAll S) [] 1 s_mark_at enc4 (s_mark_st S):=by intro K g v; cases v <;> kernel_rfl
def s_mark_raw (S:Fns) (n:Nat) (s0:B105) (a1:List UInt8):Option (Bool × B105):=rawN enc4 (s_mark_st S) n (.e s0 a1)
theorem s_mark_ok {S:Fns} (hS:FnsOk S) (n:Nat):EntryOk Tryz.prog (e4 87 (s_mark_raw S n)):=e4_ok fun _ _ _ hr=>gen_e prog_ok Tryz.func87 rfl hS (s_mark_k S) (fun _ _ _ _ v=>by cases v <;> exact id) rfl rfl hr
inductive s_next_V where
  | e (s0:B105)
def s_next_at:s_next_V → Pth × List AV × Heap
  | .e s0=>([],startT Tryz.f83 [.ptr (some (0,0))],[b105 s0 0])
def s_next_st (S:Fns) (r:B105 → Prop) (l:s_next_V → Prop):s_next_V → Prop
  | .e s0=>bn (asL s0.c0) fun x1=>cnd (decide (s0.c1 < IntKind.i64.wrap (Int.ofNat x1.length - 1))) (r (B105.mk s0.c0 (IntKind.i64.wrap (s0.c1 + 1)) s0.c2 s0.c3 s0.c4)) (r s0)
theorem s_next_k (S:Fns):KOk Tryz.prog [] 83 Tryz.f83 (enAll S) [] 1 s_next_at enc3 (s_next_st S):=by intro K g v; cases v <;> kernel_rfl
def s_next_raw (S:Fns) (n:Nat) (s0:B105):Option (B105):=rawN enc3 (s_next_st S) n (.e s0)
theorem s_next_ok {S:Fns} (hS:FnsOk S) (n:Nat):EntryOk Tryz.prog (e3 83 (s_next_raw S n)):=e3_ok fun _ _ hr=>gen_e prog_ok Tryz.func83 rfl hS (s_next_k S) (fun _ _ _ _ v=>by cases v <;> exact id) rfl rfl hr
inductive s_need_V where
  | e (s0:B105) (a1:List UInt8)
def s_need_at:s_need_V → Pth × List AV × Heap
  | .e s0 a1=>([],startT Tryz.f71 [.ptr (some (0,0)),.dat (.str a1)],[b105 s0 0])
def s_need_st (S:Fns) (r:B105 → Prop) (l:s_need_V → Prop):s_need_V → Prop
  | .e s0 a1=>bn (S.s_mark s0 a1) fun x2=>cnd (!x2.1) (bn (S.s_fail x2.2 10) fun x3=>r x3) (r x2.2)
theorem s_need_k (S:Fns):KOk Tryz.prog [] 71 Tryz.f71 (enAll S) [] 1 s_need_at enc5 (s_need_st S):=by intro K g v; cases v <;> kernel_rfl
def s_need_raw (S:Fns) (n:Nat) (s0:B105) (a1:List UInt8):Option (B105):=rawN enc5 (s_need_st S) n (.e s0 a1)
theorem s_need_ok {S:Fns} (hS:FnsOk S) (n:Nat):EntryOk Tryz.prog (e5 71 (s_need_raw S n)):=e5_ok fun _ _ _ hr=>gen_e prog_ok Tryz.func71 rfl hS (s_need_k S) (fun _ _ _ _ v=>by cases v <;> exact id) rfl rfl hr
inductive s_Query1_V where
  | e (s0:B105)
def s_Query1_at:s_Query1_V → Pth × List AV × Heap
  | .e s0=>([],startT Tryz.f29 [.ptr (some (0,0))],[b105 s0 0])
def s_Query1_st (S:Fns) (r:D × B105 → Prop) (l:s_Query1_V → Prop):s_Query1_V → Prop
  | .e s0=>bn (S.s_query s0) fun x1=>an (okG 38 x1.1) (fl x1.1 [2,3,4,5,6,7,9] (r ((G 38 x1.1),x1.2)))
theorem s_Query1_k (S:Fns):KOk Tryz.prog [] 29 Tryz.f29 (enAll S) [] 1 s_Query1_at enc0 (s_Query1_st S):=by intro K g v; cases v <;> kernel_rfl
def s_Query1_raw (S:Fns) (n:Nat) (s0:B105):Option (D × B105):=rawN enc0 (s_Query1_st S) n (.e s0)
theorem s_Query1_ok {S:Fns} (hS:FnsOk S) (n:Nat):EntryOk Tryz.prog (e0 29 38 (s_Query1_raw S n)):=e0_ok fun _ _ hr=>gen_e prog_ok Tryz.func29 rfl hS (s_Query1_k S) (fun _ _ _ _ v=>by cases v <;> exact id) rfl rfl hr
inductive t_name1_V where
  | e (a0:Int)
def t_name1_at:t_name1_V → Pth × List AV × Heap
  | .e a0=>([],startT Tryz.f133 [.dat (.int .u8 a0)],[])
def t_name1_st (S:Fns) (r:Bool → Prop) (l:t_name1_V → Prop):t_name1_V → Prop
  | .e a0=>bn (S.t_letter a0) fun x2=>cnd x2 (r true) (bn (S.t_digit a0) fun x3=>r x3)
theorem t_name1_k (S:Fns):KOk Tryz.prog [] 133 Tryz.f133 (enAll S) [] 0 t_name1_at enc32 (t_name1_st S):=by intro K g v; cases v <;> kernel_rfl
def t_name1_raw (S:Fns) (n:Nat) (a0:Int):Option (Bool):=rawN enc32 (t_name1_st S) n (.e a0)
theorem t_name1_ok {S:Fns} (hS:FnsOk S) (n:Nat):EntryOk Tryz.prog (e32 133 (t_name1_raw S n)):=e32_ok fun _ _ hr=>gen_e prog_ok Tryz.func133 rfl hS (t_name1_k S) (fun _ _ _ _ v=>by cases v <;> exact id) rfl rfl hr
end
end Go.Proofs.YtfdcjngclelnhaaGreat

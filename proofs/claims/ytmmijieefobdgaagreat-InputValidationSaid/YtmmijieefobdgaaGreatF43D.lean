/- The functions' plain forms. Printed by go3.py. No conditions. -/
import Derived.Test.YtmmijieefobdgaaGreatF43D1
set_option linter.all false
set_option maxRecDepth 100000
open Go Go.Rx Go.Proofs Go.RowKit
namespace GoForm

noncomputable def caromref43_Validate (x0 : Input) : Option Int :=
  Let (decide (x0.Kind < (1 : Int))) fun (x1405 : Bool) =>
  Let (decide (x0.Kind > (12 : Int))) fun (x1406 : Bool) =>
  Let (bif x1405 then true else x1406) fun (x1407 : Bool) =>
  if x1407 = true then some (10 : Int)
  else
  Rx.Bind (caromref43_UsedFields x0.Kind) fun (r1408 : Bool × Bool × Bool) =>
  Let (decide (x0.ID < (1 : Int))) fun (x1409 : Bool) =>
  Let (decide (x0.ID > (1099511627776 : Int))) fun (x1410 : Bool) =>
  Let (bif x1409 then true else x1410) fun (x1411 : Bool) =>
  Let (bif r1408.fst then x1411 else false) fun (x1412 : Bool) =>
  Rx.Bind (if (x1412 == false && r1408.snd.fst == true) = true then caromref43_unsaturated x0.Vec.X else some default)
  fun (r1413 : Bool) =>
  Rx.Bind
  (if (x1412 == false && r1408.snd.fst == true && r1413 == false) = true then caromref43_unsaturated x0.Vec.Y
  else some default)
  fun (r1414 : Bool) =>
  Let (bif r1413 then true else r1414) fun (x1415 : Bool) =>
  Let (bif r1408.snd.fst then x1415 else false) fun (x1416 : Bool) =>
  Let (bif x1412 then true else x1416) fun (x1417 : Bool) =>
  Rx.Bind (if (x1417 == false && r1408.snd.snd == true) = true then caromref43_unsaturated x0.Value else some default)
  fun (r1418 : Bool) =>
  Let (bif r1408.snd.snd then r1418 else false) fun (x1419 : Bool) =>
  Let (bif x1417 then true else x1419) fun (x1420 : Bool) =>
  if x1420 = true then some (6 : Int)
  else
  Let (!r1408.fst) fun (x1421 : Bool) =>
  Let (x0.ID != (0 : Int)) fun (x1422 : Bool) =>
  Let (bif x1421 then x1422 else false) fun (x1423 : Bool) =>
  Let (!r1408.snd.fst) fun (x1424 : Bool) =>
  Let (!(decide (x0.Vec.X = (0 : Int)) && decide (x0.Vec.Y = (0 : Int)))) fun (x1425 : Bool) =>
  Let (bif x1424 then x1425 else false) fun (x1426 : Bool) =>
  Let (bif x1423 then true else x1426) fun (x1427 : Bool) =>
  Let (!r1408.snd.snd) fun (x1428 : Bool) =>
  Let (x0.Value != (0 : Int)) fun (x1429 : Bool) =>
  Let (bif x1428 then x1429 else false) fun (x1430 : Bool) =>
  Let (bif x1427 then true else x1430) fun (x1431 : Bool) =>
  Let (x0.Kind != (9 : Int)) fun (x1432 : Bool) =>
  Rx.Bind
  (if (x1431 == false && x1432 == true) = true then
  caromref23_Equal x0.Body
  { ID := (0 : Int), Kind := (0 : Int), Transform := { Position := { X := (0 : Int), Y := (0 : Int) : Vec }, Angle := (0 : Int) : Transform }, Velocity := { X := (0 : Int), Y := (0 : Int) : Vec }, AngularVelocity := (0 : Int), Force := { X := (0 : Int), Y := (0 : Int) : Vec }, Torque := (0 : Int), LinearDamping := (0 : Int), AngularDamping := (0 : Int), GravityScale := (0 : Int), Bullet := false, FixedRotation := false, NoSleep := false, Asleep := false, IdleSteps := (0 : Int), Fixtures := [] : Body }
  else some default)
  fun (r1433 : Bool) =>
  Let (!r1433) fun (x1434 : Bool) =>
  Let (bif x1432 then x1434 else false) fun (x1435 : Bool) =>
  Let (bif x1431 then true else x1435) fun (x1436 : Bool) =>
  Let (x0.Kind != (11 : Int)) fun (x1437 : Bool) =>
  Let
  (!(decide (x0.Joint.ID = (0 : Int)) &&
  (decide (x0.Joint.Kind = (0 : Int)) &&
  (decide (x0.Joint.BodyA = (0 : Int)) &&
  (decide (x0.Joint.BodyB = (0 : Int)) &&
  (decide (x0.Joint.AnchorA.X = (0 : Int)) && decide (x0.Joint.AnchorA.Y = (0 : Int)) &&
  (decide (x0.Joint.AnchorB.X = (0 : Int)) && decide (x0.Joint.AnchorB.Y = (0 : Int)) &&
  (decide (x0.Joint.Axis.X = (0 : Int)) && decide (x0.Joint.Axis.Y = (0 : Int)) &&
  (decide (x0.Joint.ReferenceAngle = (0 : Int)) &&
  (decide (x0.Joint.EnableLimit = false) &&
  (decide (x0.Joint.Lower = (0 : Int)) &&
  (decide (x0.Joint.Upper = (0 : Int)) &&
  (decide (x0.Joint.EnableMotor = false) &&
  (decide (x0.Joint.MotorSpeed = (0 : Int)) &&
  (decide (x0.Joint.MaxForce = (0 : Int)) &&
  (decide (x0.Joint.Softness = (0 : Int)) &&
  (decide (x0.Joint.BreakForce = (0 : Int)) &&
  (decide (x0.Joint.CollideConnected = false) &&
  (decide (x0.Joint.Impulses.fst = (0 : Int)) &&
  (decide (x0.Joint.Impulses.snd.fst = (0 : Int)) &&
  (decide (x0.Joint.Impulses.snd.snd.fst = (0 : Int)) &&
  decide (x0.Joint.Impulses.snd.snd.snd = (0 : Int)))))))))))))))))))))))
  fun (x1438 : Bool) =>
  Let (bif x1437 then x1438 else false) fun (x1439 : Bool) =>
  Let (bif x1436 then true else x1439) fun (x1440 : Bool) => if x1440 = true then some (3 : Int) else some (0 : Int)

noncomputable def caromlaw43_InputValidation (x0 : Input) (k1 : Int) : Option Bool :=
  Rx.Bind (caromlaw43_few [x0]) fun (r1441 : Bool) =>
  Let (!r1441) fun (x1442 : Bool) =>
  if x1442 = true then Rx.Bind caromlaw43_example fun (r1443 : Bool) => some r1443
  else
  Rx.Bind (input_UsedFields k1) fun (r1444 : Bool × Bool × Bool) =>
  Rx.Bind (caromref43_UsedFields k1) fun (r1445 : Bool × Bool × Bool) =>
  Rx.Bind (input_Validate x0) fun (r1446 : Int) =>
  Rx.Bind (caromref43_Validate x0) fun (r1447 : Int) =>
  Let (r1446 == r1447) fun (x1448 : Bool) =>
  Let (r1444.fst == r1445.fst) fun (x1449 : Bool) =>
  Let (bif x1448 then x1449 else false) fun (x1450 : Bool) =>
  Let (r1444.snd.fst == r1445.snd.fst) fun (x1451 : Bool) =>
  Let (bif x1450 then x1451 else false) fun (x1452 : Bool) =>
  Let (r1444.snd.snd == r1445.snd.snd) fun (x1453 : Bool) =>
  Let (bif x1452 then x1453 else false) fun (x1454 : Bool) =>
  Rx.Bind (if (x1454 == true) = true then caromlaw43_example else some default) fun (r1455 : Bool) =>
  Let (bif x1454 then r1455 else false) fun (x1456 : Bool) => some x1456

noncomputable def caromref25_Few (w0 : World_) : Option Bool :=
  Let (↑w0.Joints.length : Int) fun (x1457 : Int) =>
  Let (decide (x1457 > (40 : Int))) fun (x1458 : Bool) =>
  Let (↑w0.Contacts.length : Int) fun (x1459 : Int) =>
  Let (decide (x1459 > (80 : Int))) fun (x1460 : Bool) =>
  Let (bif x1458 then true else x1460) fun (x1461 : Bool) =>
  Let (↑w0.Overlaps.length : Int) fun (x1462 : Int) =>
  Let (decide (x1462 > (80 : Int))) fun (x1463 : Bool) =>
  Let (bif x1461 then true else x1463) fun (x1464 : Bool) =>
  Rx.Bind (if (x1464 == false) = true then caromref22_Few w0.Bodies (40 : Int) else some default) fun (r1465 : Bool) =>
  Let (!r1465) fun (x1466 : Bool) =>
  Let (bif x1464 then true else x1466) fun (x1467 : Bool) =>
  if x1467 = true then some false
  else
  LOOP
  (fun (rec1468 : Int → Option Bool) (s1469 : Int) =>
  Let (↑w0.Contacts.length : Int) fun (x1470 : Int) =>
  Let (decide (s1469 < x1470)) fun (x1471 : Bool) =>
  if x1471 = true then
  Chk ((0 : Int) ≤ s1469 ∧ s1469 < (↑w0.Contacts.length : Int))
  (Let (ix w0.Contacts s1469) fun (x1472 : Contact) =>
  Let (↑x1472.Manifold.Points.length : Int) fun (x1473 : Int) =>
  Let (decide (x1473 > (8 : Int))) fun (x1474 : Bool) =>
  if x1474 = true then some false else Let (IntKind.i64.wrap (s1469 + (1 : Int))) fun (x1475 : Int) => rec1468 x1475)
  else some true)
  fuel (0 : Int)

noncomputable def caromref25_in (n0 : Int) (low1 : Int) (high2 : Int) : Option Bool :=
  Let (decide (n0 ≥ low1)) fun (x1476 : Bool) =>
  Let (decide (n0 ≤ high2)) fun (x1477 : Bool) => Let (bif x1476 then x1477 else false) fun (x1478 : Bool) => some x1478

noncomputable def caromref25_ValidateSettings (r0 : Settings) : Option Int :=
  Rx.Bind (caromref25_in r0.TimeStep (64 : Int) (8192 : Int)) fun (r1479 : Bool) =>
  Let (!r1479) fun (x1480 : Bool) =>
  Rx.Bind
  (if (x1480 == false) = true then caromref25_in r0.Gravity.X (-16777216 : Int) (16777216 : Int) else some default)
  fun (r1481 : Bool) =>
  Let (!r1481) fun (x1482 : Bool) =>
  Let (bif x1480 then true else x1482) fun (x1483 : Bool) =>
  Rx.Bind
  (if (x1483 == false) = true then caromref25_in r0.Gravity.Y (-16777216 : Int) (16777216 : Int) else some default)
  fun (r1484 : Bool) =>
  Let (!r1484) fun (x1485 : Bool) =>
  Let (bif x1483 then true else x1485) fun (x1486 : Bool) =>
  Rx.Bind (if (x1486 == false) = true then caromref25_in r0.Iterations (1 : Int) (32 : Int) else some default)
  fun (r1487 : Bool) =>
  Let (!r1487) fun (x1488 : Bool) =>
  Let (bif x1486 then true else x1488) fun (x1489 : Bool) =>
  Rx.Bind (if (x1489 == false) = true then caromref25_in r0.SleepSteps (0 : Int) (1048576 : Int) else some default)
  fun (r1490 : Bool) =>
  Let (!r1490) fun (x1491 : Bool) =>
  Let (bif x1489 then true else x1491) fun (x1492 : Bool) => if x1492 = true then some (6 : Int) else some (0 : Int)

noncomputable def caromref23_in (x0 : Int) (low1 : Int) (high2 : Int) : Option Bool :=
  Let (decide (x0 ≥ low1)) fun (x1493 : Bool) =>
  Let (decide (x0 ≤ high2)) fun (x1494 : Bool) => Let (bif x1493 then x1494 else false) fun (x1495 : Bool) => some x1495

noncomputable def caromref04_outside (x0 : Int) : Option Bool :=
  Let (decide (x0 < (-268435456 : Int))) fun (x1496 : Bool) =>
  Let (decide (x0 > (268435456 : Int))) fun (x1497 : Bool) =>
  Let (bif x1496 then true else x1497) fun (x1498 : Bool) => some x1498

noncomputable def caromref04_Valid (p0 : Transform) : Option Bool :=
  Rx.Bind (caromref04_outside p0.Position.X) fun (r1499 : Bool) =>
  Let (!r1499) fun (x1500 : Bool) =>
  Rx.Bind (if (x1500 == true) = true then caromref04_outside p0.Position.Y else some default) fun (r1501 : Bool) =>
  Let (!r1501) fun (x1502 : Bool) =>
  Let (bif x1500 then x1502 else false) fun (x1503 : Bool) =>
  Let (decide (p0.Angle ≥ (-205888 : Int))) fun (x1504 : Bool) =>
  Let (bif x1503 then x1504 else false) fun (x1505 : Bool) =>
  Let (decide (p0.Angle < (205888 : Int))) fun (x1506 : Bool) =>
  Let (bif x1505 then x1506 else false) fun (x1507 : Bool) => some x1507

noncomputable def caromref23_inRange (b0 : Body) : Option Bool :=
  Rx.Bind (caromref23_in b0.ID (1 : Int) (1099511627776 : Int)) fun (r1508 : Bool) =>
  Let (!r1508) fun (x1509 : Bool) =>
  Rx.Bind (if (x1509 == false) = true then caromref04_Valid b0.Transform else some default) fun (r1510 : Bool) =>
  Let (!r1510) fun (x1511 : Bool) =>
  Let (bif x1509 then true else x1511) fun (x1512 : Bool) =>
  Rx.Bind
  (if (x1512 == false) = true then caromref23_in b0.Velocity.X (-16777216 : Int) (16777216 : Int) else some default)
  fun (r1513 : Bool) =>
  Let (!r1513) fun (x1514 : Bool) =>
  Let (bif x1512 then true else x1514) fun (x1515 : Bool) =>
  Rx.Bind
  (if (x1515 == false) = true then caromref23_in b0.Velocity.Y (-16777216 : Int) (16777216 : Int) else some default)
  fun (r1516 : Bool) =>
  Let (!r1516) fun (x1517 : Bool) =>
  Let (bif x1515 then true else x1517) fun (x1518 : Bool) =>
  Rx.Bind
  (if (x1518 == false) = true then caromref23_in b0.AngularVelocity (-4194304 : Int) (4194304 : Int) else some default)
  fun (r1519 : Bool) =>
  Let (!r1519) fun (x1520 : Bool) =>
  Let (bif x1518 then true else x1520) fun (x1521 : Bool) =>
  if x1521 = true then some false
  else
  Rx.Bind (caromref23_in b0.Force.X (-536870911 : Int) (536870911 : Int)) fun (r1522 : Bool) =>
  Let (!r1522) fun (x1523 : Bool) =>
  Rx.Bind
  (if (x1523 == false) = true then caromref23_in b0.Force.Y (-536870911 : Int) (536870911 : Int) else some default)
  fun (r1524 : Bool) =>
  Let (!r1524) fun (x1525 : Bool) =>
  Let (bif x1523 then true else x1525) fun (x1526 : Bool) =>
  Rx.Bind (if (x1526 == false) = true then caromref23_in b0.Torque (-536870911 : Int) (536870911 : Int) else some default)
  fun (r1527 : Bool) =>
  Let (!r1527) fun (x1528 : Bool) =>
  Let (bif x1526 then true else x1528) fun (x1529 : Bool) =>
  if x1529 = true then some false
  else
  Rx.Bind (caromref23_in b0.LinearDamping (0 : Int) (65536 : Int)) fun (r1530 : Bool) =>
  Rx.Bind (if (r1530 == true) = true then caromref23_in b0.AngularDamping (0 : Int) (65536 : Int) else some default)
  fun (r1531 : Bool) =>
  Let (bif r1530 then r1531 else false) fun (x1532 : Bool) =>
  Rx.Bind (if (x1532 == true) = true then caromref23_in b0.GravityScale (-262144 : Int) (262144 : Int) else some default)
  fun (r1533 : Bool) =>
  Let (bif x1532 then r1533 else false) fun (x1534 : Bool) =>
  Rx.Bind (if (x1534 == true) = true then caromref23_in b0.IdleSteps (0 : Int) (1048576 : Int) else some default)
  fun (r1535 : Bool) => Let (bif x1534 then r1535 else false) fun (x1536 : Bool) => some x1536

noncomputable def caromref12_countMatches (s0 : Shape) : Option Bool :=
  Let (↑s0.Vertices.length : Int) fun (x1537 : Int) =>
  Let (s0.Kind == (3 : Int)) fun (x1538 : Bool) =>
  if x1538 = true then
  Let (decide (x1537 ≥ (3 : Int))) fun (x1539 : Bool) =>
  Let (decide (x1537 ≤ (8 : Int))) fun (x1540 : Bool) =>
  Let (bif x1539 then x1540 else false) fun (x1541 : Bool) => some x1541
  else Let (x1537 == s0.Kind) fun (x1542 : Bool) => some x1542

noncomputable def caromref12_within (x0 : Int) (m1 : Int) : Option Bool :=
  Let (IntKind.i64.wrap ((0 : Int) - m1)) fun (x1543 : Int) =>
  Let (decide (x0 ≥ x1543)) fun (x1544 : Bool) =>
  Let (decide (x0 ≤ m1)) fun (x1545 : Bool) => Let (bif x1544 then x1545 else false) fun (x1546 : Bool) => some x1546

noncomputable def caromref01_Saturate (x0 : Int) : Option Int :=
  Let (decide (x0 > (536870911 : Int))) fun (x1547 : Bool) =>
  if x1547 = true then some (536870911 : Int)
  else
  Let (decide (x0 < (-536870911 : Int))) fun (x1548 : Bool) => if x1548 = true then some (-536870911 : Int) else some x0

noncomputable def caromref01_Sub (a0 : Int) (b1 : Int) : Option Int :=
  Rx.Bind (caromref01_Saturate a0) fun (r1549 : Int) =>
  Rx.Bind (caromref01_Saturate b1) fun (r1550 : Int) =>
  Let (IntKind.i64.wrap (r1549 - r1550)) fun (x1551 : Int) =>
  Rx.Bind (caromref01_Saturate x1551) fun (r1552 : Int) => some r1552

noncomputable def caromref03_Sub (a0 : Vec) (b1 : Vec) : Option Vec :=
  Rx.Bind (caromref01_Sub a0.X b1.X) fun (r1553 : Int) =>
  Rx.Bind (caromref01_Sub a0.Y b1.Y) fun (r1554 : Int) => some { X := r1553, Y := r1554 : Vec }

noncomputable def caromref03_Saturated (v0 : Vec) : Option Vec :=
  Rx.Bind (caromref01_Saturate v0.X) fun (r1555 : Int) =>
  Rx.Bind (caromref01_Saturate v0.Y) fun (r1556 : Int) => some { X := r1555, Y := r1556 : Vec }

noncomputable def caromref01_outOfRange (n0 : Int) : Option Bool :=
  Let (decide (n0 > (4611686018427387904 : Int))) fun (x1557 : Bool) =>
  Let (decide (n0 < (-4611686018427387904 : Int))) fun (x1558 : Bool) =>
  Let (bif x1557 then true else x1558) fun (x1559 : Bool) => some x1559

noncomputable def caromref01_Isqrt (n0 : Int) : Option Int :=
  Let (decide (n0 < (0 : Int))) fun (x1560 : Bool) =>
  Rx.Bind (if (x1560 == false) = true then caromref01_outOfRange n0 else some default) fun (r1561 : Bool) =>
  Let (bif x1560 then true else r1561) fun (x1562 : Bool) =>
  if x1562 = true then some (0 : Int)
  else
  LOOP
  (fun (rec1563 : Int × Int → Option Int) (s1564 : Int × Int) =>
  Let (decide (s1564.snd > (0 : Int))) fun (x1565 : Bool) =>
  if x1565 = true then
  Join
  (fun (v1566 : Int) => Let (IntKind.i64.wrap (Int.tdiv s1564.snd (2 : Int))) fun (x1567 : Int) => rec1563 (v1566, x1567))
  fun (j1568 : Int → Option Int) =>
  Let (IntKind.i64.wrap (s1564.fst + s1564.snd)) fun (x1569 : Int) =>
  Let (IntKind.i64.wrap (s1564.fst + s1564.snd)) fun (x1570 : Int) =>
  Chk (x1570 ≠ (0 : Int))
  (Let (IntKind.i64.wrap (n0.tdiv x1570)) fun (x1571 : Int) =>
  Let (decide (x1569 ≤ x1571)) fun (x1572 : Bool) =>
  if x1572 = true then Let (IntKind.i64.wrap (s1564.fst + s1564.snd)) fun (x1573 : Int) => j1568 x1573
  else j1568 s1564.fst)
  else some s1564.fst)
  fuel ((0 : Int), (2147483648 : Int))

noncomputable def caromref03_Length (v0 : Vec) : Option Int :=
  Rx.Bind (caromref03_Saturated v0) fun (r1574 : Vec) =>
  Let (IntKind.i64.wrap (r1574.X * r1574.X)) fun (x1575 : Int) =>
  Let (IntKind.i64.wrap (r1574.Y * r1574.Y)) fun (x1576 : Int) =>
  Let (IntKind.i64.wrap (x1575 + x1576)) fun (x1577 : Int) =>
  Rx.Bind (caromref01_Isqrt x1577) fun (r1578 : Int) => some r1578

noncomputable def caromref11_inRange (v0 : Vec) : Option Bool :=
  Let (decide (v0.X ≥ (-1048576 : Int))) fun (x1579 : Bool) =>
  Let (decide (v0.X ≤ (1048576 : Int))) fun (x1580 : Bool) =>
  Let (bif x1579 then x1580 else false) fun (x1581 : Bool) =>
  Let (decide (v0.Y ≥ (-1048576 : Int))) fun (x1582 : Bool) =>
  Let (bif x1581 then x1582 else false) fun (x1583 : Bool) =>
  Let (decide (v0.Y ≤ (1048576 : Int))) fun (x1584 : Bool) =>
  Let (bif x1583 then x1584 else false) fun (x1585 : Bool) => some x1585

noncomputable def caromref03_Orientation (a0 : Vec) (b1 : Vec) (c2 : Vec) : Option Int :=
  Rx.Bind (caromref03_Saturated a0) fun (r1586 : Vec) =>
  Rx.Bind (caromref03_Saturated b1) fun (r1587 : Vec) =>
  Rx.Bind (caromref03_Saturated c2) fun (r1588 : Vec) =>
  Let (IntKind.i64.wrap (r1587.X - r1586.X)) fun (x1589 : Int) =>
  Let (IntKind.i64.wrap (r1588.Y - r1586.Y)) fun (x1590 : Int) =>
  Let (IntKind.i64.wrap (x1589 * x1590)) fun (x1591 : Int) =>
  Let (IntKind.i64.wrap (r1587.Y - r1586.Y)) fun (x1592 : Int) =>
  Let (IntKind.i64.wrap (r1588.X - r1586.X)) fun (x1593 : Int) =>
  Let (IntKind.i64.wrap (x1592 * x1593)) fun (x1594 : Int) =>
  Let (IntKind.i64.wrap (x1591 - x1594)) fun (x1595 : Int) =>
  Let (decide (x1595 > (0 : Int))) fun (x1596 : Bool) =>
  if x1596 = true then some (1 : Int)
  else Let (decide (x1595 < (0 : Int))) fun (x1597 : Bool) => if x1597 = true then some (-1 : Int) else some (0 : Int)

noncomputable def caromref11_IsConvex (vertices0 : (List Vec)) : Option Bool :=
  Let (↑vertices0.length : Int) fun (x1598 : Int) =>
  Let (decide (x1598 < (3 : Int))) fun (x1599 : Bool) =>
  Let (decide (x1598 > (8 : Int))) fun (x1600 : Bool) =>
  Let (bif x1599 then true else x1600) fun (x1601 : Bool) =>
  if x1601 = true then some false
  else
  LOOP
  (fun (rec1602 : Int → Option Bool) (s1603 : Int) =>
  Let (decide (s1603 < x1598)) fun (x1604 : Bool) =>
  if x1604 = true then
  Chk ((0 : Int) ≤ s1603 ∧ s1603 < (↑vertices0.length : Int))
  (Let (ix vertices0 s1603) fun (x1605 : Vec) =>
  Rx.Bind (caromref11_inRange x1605) fun (r1606 : Bool) =>
  Let (!r1606) fun (x1607 : Bool) =>
  if x1607 = true then some false else Let (IntKind.i64.wrap (s1603 + (1 : Int))) fun (x1608 : Int) => rec1602 x1608)
  else
  LOOP
  (fun (rec1609 : Int → Option Bool) (s1610 : Int) =>
  Let (decide (s1610 < x1598)) fun (x1611 : Bool) =>
  if x1611 = true then
  Let (IntKind.i64.wrap (s1610 + (1 : Int))) fun (x1612 : Int) =>
  Chk (x1598 ≠ (0 : Int))
  (Let (x1612.tmod x1598) fun (x1613 : Int) =>
  LOOP
  (fun (rec1614 : Int → Option Bool) (s1615 : Int) =>
  Let (decide (s1615 < x1598)) fun (x1616 : Bool) =>
  if x1616 = true then
  Let (s1615 != s1610) fun (x1617 : Bool) =>
  Let (s1615 != x1613) fun (x1618 : Bool) =>
  Let (bif x1617 then x1618 else false) fun (x1619 : Bool) =>
  Chk ((x1619 == true) = true → (0 : Int) ≤ s1610 ∧ s1610 < (↑vertices0.length : Int))
  (Let (ix vertices0 s1610) fun (x1620 : Vec) =>
  Chk ((x1619 == true) = true → (0 : Int) ≤ x1613 ∧ x1613 < (↑vertices0.length : Int))
  (Let (ix vertices0 x1613) fun (x1621 : Vec) =>
  Chk ((x1619 == true) = true → (0 : Int) ≤ s1615 ∧ s1615 < (↑vertices0.length : Int))
  (Let (ix vertices0 s1615) fun (x1622 : Vec) =>
  Rx.Bind (if (x1619 == true) = true then caromref03_Orientation x1620 x1621 x1622 else some default) fun (r1623 : Int) =>
  Let (r1623 != (1 : Int)) fun (x1624 : Bool) =>
  Let (bif x1619 then x1624 else false) fun (x1625 : Bool) =>
  if x1625 = true then some false else Let (IntKind.i64.wrap (s1615 + (1 : Int))) fun (x1626 : Int) => rec1614 x1626)))
  else Let (IntKind.i64.wrap (s1610 + (1 : Int))) fun (x1627 : Int) => rec1609 x1627)
  fuel (0 : Int))
  else some true)
  fuel (0 : Int))
  fuel (0 : Int)

noncomputable def caromref11_ShortestEdge (vertices0 : (List Vec)) : Option Int :=
  Rx.Bind (caromref11_IsConvex vertices0) fun (r1628 : Bool) =>
  Let (!r1628) fun (x1629 : Bool) =>
  if x1629 = true then some (0 : Int)
  else
  LOOP
  (fun (rec1630 : Int × Int → Option Int) (s1631 : Int × Int) =>
  Let (↑vertices0.length : Int) fun (x1632 : Int) =>
  Let (decide (s1631.snd < x1632)) fun (x1633 : Bool) =>
  if x1633 = true then
  Join (fun (v1634 : Int) => Let (IntKind.i64.wrap (s1631.snd + (1 : Int))) fun (x1635 : Int) => rec1630 (v1634, x1635))
  fun (j1636 : Int → Option Int) =>
  Let (IntKind.i64.wrap (s1631.snd + (1 : Int))) fun (x1637 : Int) =>
  Let (↑vertices0.length : Int) fun (x1638 : Int) =>
  Chk (x1638 ≠ (0 : Int))
  (Let (x1637.tmod x1638) fun (x1639 : Int) =>
  Chk ((0 : Int) ≤ x1639 ∧ x1639 < (↑vertices0.length : Int))
  (Let (ix vertices0 x1639) fun (x1640 : Vec) =>
  Chk ((0 : Int) ≤ s1631.snd ∧ s1631.snd < (↑vertices0.length : Int))
  (Let (ix vertices0 s1631.snd) fun (x1641 : Vec) =>
  Rx.Bind (caromref03_Sub x1640 x1641) fun (r1642 : Vec) =>
  Rx.Bind (caromref03_Length r1642) fun (r1643 : Int) =>
  Let (decide (s1631.fst < (0 : Int))) fun (x1644 : Bool) =>
  Let (decide (r1643 < s1631.fst)) fun (x1645 : Bool) =>
  Let (bif x1644 then true else x1645) fun (x1646 : Bool) => if x1646 = true then j1636 r1643 else j1636 s1631.fst)))
  else some s1631.fst)
  fuel ((-1 : Int), (0 : Int))

noncomputable def caromref01_RoundDiv (n0 : Int) (d1 : Int) : Option Int :=
  Let (decide (d1 < (1 : Int))) fun (x1647 : Bool) =>
  Rx.Bind (if (x1647 == false) = true then caromref01_outOfRange d1 else some default) fun (r1648 : Bool) =>
  Let (bif x1647 then true else r1648) fun (x1649 : Bool) =>
  Rx.Bind (if (x1649 == false) = true then caromref01_outOfRange n0 else some default) fun (r1650 : Bool) =>
  Let (bif x1649 then true else r1650) fun (x1651 : Bool) =>
  if x1651 = true then some (0 : Int)
  else
  Join
  (fun (v1652 : Int) =>
  Chk (d1 ≠ (0 : Int))
  (Let (IntKind.i64.wrap (v1652.tdiv d1)) fun (x1653 : Int) =>
  Let (IntKind.i64.wrap (x1653 * d1)) fun (x1654 : Int) =>
  Let (IntKind.i64.wrap (v1652 - x1654)) fun (x1655 : Int) =>
  Join
  (fun (v1656 : Int) =>
  Let (decide (n0 < (0 : Int))) fun (x1657 : Bool) =>
  if x1657 = true then Let (IntKind.i64.wrap ((0 : Int) - v1656)) fun (x1658 : Int) => some x1658 else some v1656)
  fun (j1659 : Int → Option Int) =>
  Let (IntKind.i64.wrap (d1 - x1655)) fun (x1660 : Int) =>
  Let (decide (x1655 ≥ x1660)) fun (x1661 : Bool) =>
  if x1661 = true then Let (IntKind.i64.wrap (x1653 + (1 : Int))) fun (x1662 : Int) => j1659 x1662 else j1659 x1653))
  fun (j1663 : Int → Option Int) =>
  Let (decide (n0 < (0 : Int))) fun (x1664 : Bool) =>
  if x1664 = true then Let (IntKind.i64.wrap ((0 : Int) - n0)) fun (x1665 : Int) => j1663 x1665 else j1663 n0

noncomputable def caromref11_cross (v0 : (List Vec)) (i1 : Int) : Option Int :=
  Chk ((0 : Int) ≤ i1 ∧ i1 < (↑v0.length : Int))
  (Let (ix v0 i1) fun (x1666 : Vec) =>
  Chk ((0 : Int) ≤ (0 : Int) ∧ (0 : Int) < (↑v0.length : Int))
  (Let (ix v0 (0 : Int)) fun (x1667 : Vec) =>
  Let (IntKind.i64.wrap (x1666.X - x1667.X)) fun (x1668 : Int) =>
  Chk ((0 : Int) ≤ i1 ∧ i1 < (↑v0.length : Int))
  (Let (ix v0 i1) fun (x1669 : Vec) =>
  Chk ((0 : Int) ≤ (0 : Int) ∧ (0 : Int) < (↑v0.length : Int))
  (Let (ix v0 (0 : Int)) fun (x1670 : Vec) =>
  Let (IntKind.i64.wrap (x1669.Y - x1670.Y)) fun (x1671 : Int) =>
  Let (IntKind.i64.wrap (i1 + (1 : Int))) fun (x1672 : Int) =>
  Chk ((0 : Int) ≤ x1672 ∧ x1672 < (↑v0.length : Int))
  (Let (ix v0 x1672) fun (x1673 : Vec) =>
  Chk ((0 : Int) ≤ (0 : Int) ∧ (0 : Int) < (↑v0.length : Int))
  (Let (ix v0 (0 : Int)) fun (x1674 : Vec) =>
  Let (IntKind.i64.wrap (x1673.X - x1674.X)) fun (x1675 : Int) =>
  Let (IntKind.i64.wrap (i1 + (1 : Int))) fun (x1676 : Int) =>
  Chk ((0 : Int) ≤ x1676 ∧ x1676 < (↑v0.length : Int))
  (Let (ix v0 x1676) fun (x1677 : Vec) =>
  Chk ((0 : Int) ≤ (0 : Int) ∧ (0 : Int) < (↑v0.length : Int))
  (Let (ix v0 (0 : Int)) fun (x1678 : Vec) =>
  Let (IntKind.i64.wrap (x1677.Y - x1678.Y)) fun (x1679 : Int) =>
  Let (IntKind.i64.wrap (x1668 * x1679)) fun (x1680 : Int) =>
  Let (IntKind.i64.wrap (x1671 * x1675)) fun (x1681 : Int) =>
  Let (IntKind.i64.wrap (x1680 - x1681)) fun (x1682 : Int) =>
  Rx.Bind (caromref01_RoundDiv x1682 (65536 : Int)) fun (r1683 : Int) => some r1683))))))))

noncomputable def caromref11_Area (vertices0 : (List Vec)) : Option Int :=
  Rx.Bind (caromref11_IsConvex vertices0) fun (r1684 : Bool) =>
  Let (!r1684) fun (x1685 : Bool) =>
  if x1685 = true then some (0 : Int)
  else
  LOOP
  (fun (rec1686 : Int × Int → Option Int) (s1687 : Int × Int) =>
  Let (IntKind.i64.wrap (s1687.snd + (1 : Int))) fun (x1688 : Int) =>
  Let (↑vertices0.length : Int) fun (x1689 : Int) =>
  Let (decide (x1688 < x1689)) fun (x1690 : Bool) =>
  if x1690 = true then
  Rx.Bind (caromref11_cross vertices0 s1687.snd) fun (r1691 : Int) =>
  Let (IntKind.i64.wrap (s1687.fst + r1691)) fun (x1692 : Int) =>
  Let (IntKind.i64.wrap (s1687.snd + (1 : Int))) fun (x1693 : Int) => rec1686 (x1692, x1693)
  else Rx.Bind (caromref01_RoundDiv s1687.fst (2 : Int)) fun (r1694 : Int) => some r1694)
  fuel ((0 : Int), (1 : Int))

noncomputable def caromref12_Validate (s0 : Shape) : Option Int :=
  Let (decide (s0.Kind < (1 : Int))) fun (x1695 : Bool) =>
  Let (decide (s0.Kind > (3 : Int))) fun (x1696 : Bool) =>
  Let (bif x1695 then true else x1696) fun (x1697 : Bool) =>
  if x1697 = true then some (10 : Int)
  else
  Rx.Bind (caromref12_countMatches s0) fun (r1698 : Bool) =>
  Let (!r1698) fun (x1699 : Bool) =>
  if x1699 = true then some (11 : Int)
  else
  LOOP
  (fun (rec1700 : Int → Option Int) (s1701 : Int) =>
  Let (↑s0.Vertices.length : Int) fun (x1702 : Int) =>
  Let (decide (s1701 < x1702)) fun (x1703 : Bool) =>
  if x1703 = true then
  Chk ((0 : Int) ≤ s1701 ∧ s1701 < (↑s0.Vertices.length : Int))
  (Let (ix s0.Vertices s1701) fun (x1704 : Vec) =>
  Rx.Bind (caromref12_within x1704.X (1048576 : Int)) fun (r1705 : Bool) =>
  Let (!r1705) fun (x1706 : Bool) =>
  Chk ((x1706 == false) = true → (0 : Int) ≤ s1701 ∧ s1701 < (↑s0.Vertices.length : Int))
  (Let (ix s0.Vertices s1701) fun (x1707 : Vec) =>
  Rx.Bind (if (x1706 == false) = true then caromref12_within x1707.Y (1048576 : Int) else some default)
  fun (r1708 : Bool) =>
  Let (!r1708) fun (x1709 : Bool) =>
  Let (bif x1706 then true else x1709) fun (x1710 : Bool) =>
  if x1710 = true then some (6 : Int) else Let (IntKind.i64.wrap (s1701 + (1 : Int))) fun (x1711 : Int) => rec1700 x1711))
  else
  Let (s0.Kind == (3 : Int)) fun (x1712 : Bool) =>
  Let (s0.Radius != (0 : Int)) fun (x1713 : Bool) =>
  Let (bif x1712 then x1713 else false) fun (x1714 : Bool) =>
  Let (s0.Kind != (3 : Int)) fun (x1715 : Bool) =>
  Let (decide (s0.Radius < (2048 : Int))) fun (x1716 : Bool) =>
  Let (decide (s0.Radius > (524288 : Int))) fun (x1717 : Bool) =>
  Let (bif x1716 then true else x1717) fun (x1718 : Bool) =>
  Let (bif x1715 then x1718 else false) fun (x1719 : Bool) =>
  Let (bif x1714 then true else x1719) fun (x1720 : Bool) =>
  if x1720 = true then some (6 : Int)
  else
  Let (s0.Kind == (2 : Int)) fun (x1721 : Bool) =>
  Chk ((x1721 == true) = true → (0 : Int) ≤ (1 : Int) ∧ (1 : Int) < (↑s0.Vertices.length : Int))
  (Let (ix s0.Vertices (1 : Int)) fun (x1722 : Vec) =>
  Chk ((x1721 == true) = true → (0 : Int) ≤ (0 : Int) ∧ (0 : Int) < (↑s0.Vertices.length : Int))
  (Let (ix s0.Vertices (0 : Int)) fun (x1723 : Vec) =>
  Rx.Bind (if (x1721 == true) = true then caromref03_Sub x1722 x1723 else some { X := default, Y := default : Vec })
  fun (r1724 : Vec) =>
  Rx.Bind (if (x1721 == true) = true then caromref03_Length r1724 else some default) fun (r1725 : Int) =>
  Let (decide (r1725 < (4096 : Int))) fun (x1726 : Bool) =>
  Let (bif x1721 then x1726 else false) fun (x1727 : Bool) =>
  if x1727 = true then some (12 : Int)
  else
  Let (s0.Kind == (3 : Int)) fun (x1728 : Bool) =>
  Rx.Bind (if (x1728 == true) = true then caromref11_IsConvex s0.Vertices else some default) fun (r1729 : Bool) =>
  Let (!r1729) fun (x1730 : Bool) =>
  Rx.Bind (if (x1728 == true && x1730 == false) = true then caromref11_ShortestEdge s0.Vertices else some default)
  fun (r1731 : Int) =>
  Let (decide (r1731 < (4096 : Int))) fun (x1732 : Bool) =>
  Let (bif x1730 then true else x1732) fun (x1733 : Bool) =>
  Rx.Bind (if (x1728 == true && x1733 == false) = true then caromref11_Area s0.Vertices else some default)
  fun (r1734 : Int) =>
  Let (decide (r1734 < (256 : Int))) fun (x1735 : Bool) =>
  Let (bif x1733 then true else x1735) fun (x1736 : Bool) =>
  Let (bif x1728 then x1736 else false) fun (x1737 : Bool) => if x1737 = true then some (12 : Int) else some (0 : Int))))
  fuel (0 : Int)

noncomputable def caromref23_ValidateFixture (f0 : Fixture) : Option Int :=
  Rx.Bind (caromref12_Validate f0.Shape) fun (r1738 : Int) =>
  Let (r1738 != (0 : Int)) fun (x1739 : Bool) =>
  if x1739 = true then some r1738
  else
  Rx.Bind (caromref23_in f0.Density (0 : Int) (262144 : Int)) fun (r1740 : Bool) =>
  Let (!r1740) fun (x1741 : Bool) =>
  Rx.Bind (if (x1741 == false) = true then caromref23_in f0.Friction (0 : Int) (131072 : Int) else some default)
  fun (r1742 : Bool) =>
  Let (!r1742) fun (x1743 : Bool) =>
  Let (bif x1741 then true else x1743) fun (x1744 : Bool) =>
  Rx.Bind (if (x1744 == false) = true then caromref23_in f0.Restitution (0 : Int) (65536 : Int) else some default)
  fun (r1745 : Bool) =>
  Let (!r1745) fun (x1746 : Bool) =>
  Let (bif x1744 then true else x1746) fun (x1747 : Bool) =>
  Rx.Bind (if (x1747 == false) = true then caromref23_in f0.Category (0 : Int) (65535 : Int) else some default)
  fun (r1748 : Bool) =>
  Let (!r1748) fun (x1749 : Bool) =>
  Let (bif x1747 then true else x1749) fun (x1750 : Bool) =>
  Rx.Bind (if (x1750 == false) = true then caromref23_in f0.Mask (0 : Int) (65535 : Int) else some default)
  fun (r1751 : Bool) =>
  Let (!r1751) fun (x1752 : Bool) =>
  Let (bif x1750 then true else x1752) fun (x1753 : Bool) =>
  Rx.Bind (if (x1753 == false) = true then caromref23_in f0.Group (-32 : Int) (32 : Int) else some default)
  fun (r1754 : Bool) =>
  Let (!r1754) fun (x1755 : Bool) =>
  Let (bif x1753 then true else x1755) fun (x1756 : Bool) => if x1756 = true then some (6 : Int) else some (0 : Int)

noncomputable def caromref23_Validate (b0 : Body) : Option Int :=
  Let (b0.Kind != (1 : Int)) fun (x1757 : Bool) =>
  Let (b0.Kind != (2 : Int)) fun (x1758 : Bool) =>
  Let (bif x1757 then x1758 else false) fun (x1759 : Bool) =>
  Let (b0.Kind != (3 : Int)) fun (x1760 : Bool) =>
  Let (bif x1759 then x1760 else false) fun (x1761 : Bool) =>
  if x1761 = true then some (10 : Int)
  else
  Rx.Bind (caromref23_inRange b0) fun (r1762 : Bool) =>
  Let (!r1762) fun (x1763 : Bool) =>
  if x1763 = true then some (6 : Int)
  else
  Let (↑b0.Fixtures.length : Int) fun (x1764 : Int) =>
  Let (decide (x1764 > (4 : Int))) fun (x1765 : Bool) =>
  if x1765 = true then some (11 : Int)
  else
  LOOP
  (fun (rec1766 : Int → Option Int) (s1767 : Int) =>
  Let (↑b0.Fixtures.length : Int) fun (x1768 : Int) =>
  Let (decide (s1767 < x1768)) fun (x1769 : Bool) =>
  if x1769 = true then
  Chk ((0 : Int) ≤ s1767 ∧ s1767 < (↑b0.Fixtures.length : Int))
  (Let (ix b0.Fixtures s1767) fun (x1770 : Fixture) =>
  Rx.Bind (caromref23_ValidateFixture x1770) fun (r1771 : Int) =>
  Let (r1771 != (0 : Int)) fun (x1772 : Bool) =>
  if x1772 = true then some (13 : Int) else Let (IntKind.i64.wrap (s1767 + (1 : Int))) fun (x1773 : Int) => rec1766 x1773)
  else
  Let (!(decide (b0.Velocity.X = (0 : Int)) && decide (b0.Velocity.Y = (0 : Int)))) fun (x1774 : Bool) =>
  Let (b0.AngularVelocity != (0 : Int)) fun (x1775 : Bool) =>
  Let (bif x1774 then true else x1775) fun (x1776 : Bool) =>
  Let (!(decide (b0.Force.X = (0 : Int)) && decide (b0.Force.Y = (0 : Int)))) fun (x1777 : Bool) =>
  Let (b0.Torque != (0 : Int)) fun (x1778 : Bool) =>
  Let (bif x1777 then true else x1778) fun (x1779 : Bool) =>
  Let (b0.Kind == (1 : Int)) fun (x1780 : Bool) =>
  Let (bif x1776 then true else x1779) fun (x1781 : Bool) =>
  Let (bif x1780 then x1781 else false) fun (x1782 : Bool) =>
  Let (b0.Kind != (3 : Int)) fun (x1783 : Bool) =>
  Let (bif b0.Asleep then true else b0.Bullet) fun (x1784 : Bool) =>
  Let (bif x1783 then x1784 else false) fun (x1785 : Bool) =>
  Let (bif x1782 then true else x1785) fun (x1786 : Bool) =>
  Let (bif b0.Asleep then x1776 else false) fun (x1787 : Bool) =>
  Let (bif x1786 then true else x1787) fun (x1788 : Bool) => if x1788 = true then some (14 : Int) else some (0 : Int))
  fuel (0 : Int)

noncomputable def caromref25_validBodies (w0 : World_) : Option Bool :=
  LOOP
  (fun (rec1789 : Int × Int → Option Bool) (s1790 : Int × Int) =>
  Let (↑w0.Bodies.length : Int) fun (x1791 : Int) =>
  Let (decide (s1790.snd < x1791)) fun (x1792 : Bool) =>
  if x1792 = true then
  Chk ((0 : Int) ≤ s1790.snd ∧ s1790.snd < (↑w0.Bodies.length : Int))
  (Let (ix w0.Bodies s1790.snd) fun (x1793 : Body) =>
  Rx.Bind (caromref23_Validate x1793) fun (r1794 : Int) =>
  Let (r1794 != (0 : Int)) fun (x1795 : Bool) =>
  Let (decide (x1793.ID ≥ w0.NextID)) fun (x1796 : Bool) =>
  Let (bif x1795 then true else x1796) fun (x1797 : Bool) =>
  Let (decide (s1790.snd > (0 : Int))) fun (x1798 : Bool) =>
  Let (decide (x1793.ID ≤ s1790.fst)) fun (x1799 : Bool) =>
  Let (bif x1798 then x1799 else false) fun (x1800 : Bool) =>
  Let (bif x1797 then true else x1800) fun (x1801 : Bool) =>
  if x1801 = true then some false
  else Let (IntKind.i64.wrap (s1790.snd + (1 : Int))) fun (x1802 : Int) => rec1789 (x1793.ID, x1802))
  else some true)
  fuel ((0 : Int), (0 : Int))

noncomputable def caromref24_inRange (x0 : Int) (low1 : Int) (high2 : Int) : Option Bool :=
  Let (decide (x0 ≥ low1)) fun (x1803 : Bool) =>
  Let (decide (x0 ≤ high2)) fun (x1804 : Bool) => Let (bif x1803 then x1804 else false) fun (x1805 : Bool) => some x1805

noncomputable def caromref24_inSquare (v0 : Vec) (m1 : Int) : Option Bool :=
  Let (IntKind.i64.wrap ((0 : Int) - m1)) fun (x1806 : Int) =>
  Rx.Bind (caromref24_inRange v0.X x1806 m1) fun (r1807 : Bool) =>
  Let (IntKind.i64.wrap ((0 : Int) - m1)) fun (x1808 : Int) =>
  Rx.Bind (if (r1807 == true) = true then caromref24_inRange v0.Y x1808 m1 else some default) fun (r1809 : Bool) =>
  Let (bif r1807 then r1809 else false) fun (x1810 : Bool) => some x1810

noncomputable def caromref24_limitsValid (j0 : Joint) : Option Bool :=
  Rx.Bind (caromref24_inRange j0.Lower (-268435456 : Int) (268435456 : Int)) fun (r1811 : Bool) =>
  Let (!r1811) fun (x1812 : Bool) =>
  Rx.Bind
  (if (x1812 == false) = true then caromref24_inRange j0.Upper (-268435456 : Int) (268435456 : Int) else some default)
  fun (r1813 : Bool) =>
  Let (!r1813) fun (x1814 : Bool) =>
  Let (bif x1812 then true else x1814) fun (x1815 : Bool) =>
  Let (decide (j0.Lower > j0.Upper)) fun (x1816 : Bool) =>
  Let (bif x1815 then true else x1816) fun (x1817 : Bool) =>
  if x1817 = true then some false
  else
  Let (j0.Kind == (1 : Int)) fun (x1818 : Bool) =>
  if x1818 = true then Let (decide (j0.Lower ≥ (0 : Int))) fun (x1819 : Bool) => some x1819
  else
  Let (j0.Kind != (2 : Int)) fun (x1820 : Bool) =>
  Let (decide (j0.Lower ≥ (-205888 : Int))) fun (x1821 : Bool) =>
  Let (decide (j0.Upper ≤ (205888 : Int))) fun (x1822 : Bool) =>
  Let (bif x1821 then x1822 else false) fun (x1823 : Bool) =>
  Let (bif x1820 then true else x1823) fun (x1824 : Bool) => some x1824

noncomputable def caromref24_rangesValid (j0 : Joint) : Option Bool :=
  Join
  (fun (v1825 : Int) =>
  LOOP
  (fun (rec1826 : Int → Option Bool) (s1827 : Int) =>
  Let (decide (s1827 < (4 : Int))) fun (x1828 : Bool) =>
  if x1828 = true then
  Chk ((0 : Int) ≤ s1827 ∧ s1827 < (↑(4 : Nat) : Int))
  (Chk
  ((0 : Int) ≤ s1827 ∧
  s1827 < (↑[j0.Impulses.fst, j0.Impulses.snd.fst, j0.Impulses.snd.snd.fst, j0.Impulses.snd.snd.snd].length : Int))
  (Let (ix [j0.Impulses.fst, j0.Impulses.snd.fst, j0.Impulses.snd.snd.fst, j0.Impulses.snd.snd.snd] s1827)
  fun (x1829 : Int) =>
  Rx.Bind (caromref24_inRange x1829 (-536870911 : Int) (536870911 : Int)) fun (r1830 : Bool) =>
  Let (!r1830) fun (x1831 : Bool) =>
  if x1831 = true then some false else Let (IntKind.i64.wrap (s1827 + (1 : Int))) fun (x1832 : Int) => rec1826 x1832))
  else
  Rx.Bind (caromref24_inRange j0.ID (1 : Int) (1099511627776 : Int)) fun (r1833 : Bool) =>
  Let (!r1833) fun (x1834 : Bool) =>
  Rx.Bind (if (x1834 == false) = true then caromref24_inSquare j0.AnchorA v1825 else some default) fun (r1835 : Bool) =>
  Let (!r1835) fun (x1836 : Bool) =>
  Let (bif x1834 then true else x1836) fun (x1837 : Bool) =>
  Rx.Bind (if (x1837 == false) = true then caromref24_inSquare j0.AnchorB (1048576 : Int) else some default)
  fun (r1838 : Bool) =>
  Let (!r1838) fun (x1839 : Bool) =>
  Let (bif x1837 then true else x1839) fun (x1840 : Bool) =>
  Rx.Bind
  (if (x1840 == false) = true then caromref24_inRange j0.ReferenceAngle (-205888 : Int) (205887 : Int) else some default)
  fun (r1841 : Bool) =>
  Let (!r1841) fun (x1842 : Bool) =>
  Let (bif x1840 then true else x1842) fun (x1843 : Bool) =>
  Rx.Bind (if (x1843 == false) = true then caromref24_limitsValid j0 else some default) fun (r1844 : Bool) =>
  Let (!r1844) fun (x1845 : Bool) =>
  Let (bif x1843 then true else x1845) fun (x1846 : Bool) =>
  if x1846 = true then some false
  else
  Rx.Bind (caromref24_inRange j0.MotorSpeed (-16777216 : Int) (16777216 : Int)) fun (r1847 : Bool) =>
  Rx.Bind (if (r1847 == true) = true then caromref24_inRange j0.MaxForce (0 : Int) (536870911 : Int) else some default)
  fun (r1848 : Bool) =>
  Let (bif r1847 then r1848 else false) fun (x1849 : Bool) =>
  Rx.Bind (if (x1849 == true) = true then caromref24_inRange j0.Softness (0 : Int) (536870911 : Int) else some default)
  fun (r1850 : Bool) =>
  Let (bif x1849 then r1850 else false) fun (x1851 : Bool) =>
  Rx.Bind (if (x1851 == true) = true then caromref24_inRange j0.BreakForce (0 : Int) (536870911 : Int) else some default)
  fun (r1852 : Bool) => Let (bif x1851 then r1852 else false) fun (x1853 : Bool) => some x1853)
  fuel (0 : Int))
  fun (j1854 : Int → Option Bool) =>
  Let (j0.Kind == (5 : Int)) fun (x1855 : Bool) => if x1855 = true then j1854 (268435456 : Int) else j1854 (1048576 : Int)

noncomputable def caromref24_Validate (j0 : Joint) : Option Int :=
  Let (decide (j0.Kind < (1 : Int))) fun (x1856 : Bool) =>
  Let (decide (j0.Kind > (5 : Int))) fun (x1857 : Bool) =>
  Let (bif x1856 then true else x1857) fun (x1858 : Bool) =>
  if x1858 = true then some (10 : Int)
  else
  Rx.Bind (caromref24_rangesValid j0) fun (r1859 : Bool) =>
  Let (!r1859) fun (x1860 : Bool) =>
  if x1860 = true then some (6 : Int)
  else
  Rx.Bind (caromref24_inRange j0.BodyB (1 : Int) (1099511627776 : Int)) fun (r1861 : Bool) =>
  Let (!r1861) fun (x1862 : Bool) =>
  Let (j0.Kind == (5 : Int)) fun (x1863 : Bool) =>
  Let (j0.BodyA != (0 : Int)) fun (x1864 : Bool) =>
  Let (bif x1863 then x1864 else false) fun (x1865 : Bool) =>
  Let (bif x1862 then true else x1865) fun (x1866 : Bool) =>
  Let (j0.Kind != (5 : Int)) fun (x1867 : Bool) =>
  Rx.Bind
  (if (x1866 == false && x1867 == true) = true then caromref24_inRange j0.BodyA (1 : Int) (1099511627776 : Int)
  else some default)
  fun (r1868 : Bool) =>
  Let (!r1868) fun (x1869 : Bool) =>
  Let (j0.BodyA == j0.BodyB) fun (x1870 : Bool) =>
  Let (bif x1869 then true else x1870) fun (x1871 : Bool) =>
  Let (bif x1867 then x1871 else false) fun (x1872 : Bool) =>
  Let (bif x1866 then true else x1872) fun (x1873 : Bool) =>
  if x1873 = true then some (14 : Int)
  else
  Let (decide (j0.Axis.X = (0 : Int)) && decide (j0.Axis.Y = (0 : Int))) fun (x1874 : Bool) =>
  Let (j0.Kind == (3 : Int)) fun (x1875 : Bool) =>
  Rx.Bind (if (x1875 == true) = true then caromref03_Length j0.Axis else some default) fun (r1876 : Int) =>
  Rx.Bind (if (x1875 == true) = true then caromref24_inRange r1876 (65520 : Int) (65552 : Int) else some default)
  fun (r1877 : Bool) =>
  Let (!r1877) fun (x1878 : Bool) =>
  Let (bif x1875 then x1878 else false) fun (x1879 : Bool) =>
  Let (j0.Kind != (3 : Int)) fun (x1880 : Bool) =>
  Let (!x1874) fun (x1881 : Bool) =>
  Let (bif x1880 then x1881 else false) fun (x1882 : Bool) =>
  Let (bif x1879 then true else x1882) fun (x1883 : Bool) =>
  if x1883 = true then some (15 : Int)
  else
  Let (j0.Kind == (1 : Int)) fun (x1884 : Bool) =>
  Let (j0.Kind == (4 : Int)) fun (x1885 : Bool) =>
  Let (j0.Kind == (5 : Int)) fun (x1886 : Bool) =>
  Let (bif x1885 then true else x1886) fun (x1887 : Bool) =>
  Let (bif x1884 then true else x1887) fun (x1888 : Bool) =>
  Let (bif x1888 then j0.EnableMotor else false) fun (x1889 : Bool) =>
  Let (bif x1887 then j0.EnableLimit else false) fun (x1890 : Bool) =>
  Let (bif x1889 then true else x1890) fun (x1891 : Bool) =>
  Let (!j0.EnableLimit) fun (x1892 : Bool) =>
  Let (bif x1884 then x1892 else false) fun (x1893 : Bool) =>
  Let (bif x1891 then true else x1893) fun (x1894 : Bool) => if x1894 = true then some (15 : Int) else some (0 : Int)

noncomputable def caromref25_FindBody (w0 : World_) (id1 : Int) : Option Int :=
  LOOP
  (fun (rec1895 : Int → Option Int) (s1896 : Int) =>
  Let (↑w0.Bodies.length : Int) fun (x1897 : Int) =>
  Let (decide (s1896 < x1897)) fun (x1898 : Bool) =>
  if x1898 = true then
  Chk ((0 : Int) ≤ s1896 ∧ s1896 < (↑w0.Bodies.length : Int))
  (Let (ix w0.Bodies s1896) fun (x1899 : Body) =>
  Let (x1899.ID == id1) fun (x1900 : Bool) =>
  if x1900 = true then some s1896 else Let (IntKind.i64.wrap (s1896 + (1 : Int))) fun (x1901 : Int) => rec1895 x1901)
  else some (-1 : Int))
  fuel (0 : Int)

noncomputable def caromref25_connected (w0 : World_) (j1 : Joint) : Option Bool :=
  Let (j1.BodyA == (0 : Int)) fun (x1902 : Bool) =>
  Rx.Bind (if (x1902 == false) = true then caromref25_FindBody w0 j1.BodyA else some default) fun (r1903 : Int) =>
  Let (decide (r1903 ≥ (0 : Int))) fun (x1904 : Bool) =>
  Let (bif x1902 then true else x1904) fun (x1905 : Bool) =>
  Let (j1.BodyB == (0 : Int)) fun (x1906 : Bool) =>
  Rx.Bind (if (x1905 == true && x1906 == false) = true then caromref25_FindBody w0 j1.BodyB else some default)
  fun (r1907 : Int) =>
  Let (decide (r1907 ≥ (0 : Int))) fun (x1908 : Bool) =>
  Let (bif x1906 then true else x1908) fun (x1909 : Bool) =>
  Let (bif x1905 then x1909 else false) fun (x1910 : Bool) => some x1910

noncomputable def caromref25_validJoints (w0 : World_) : Option Bool :=
  LOOP
  (fun (rec1911 : Int × Int → Option Bool) (s1912 : Int × Int) =>
  Let (↑w0.Joints.length : Int) fun (x1913 : Int) =>
  Let (decide (s1912.snd < x1913)) fun (x1914 : Bool) =>
  if x1914 = true then
  Chk ((0 : Int) ≤ s1912.snd ∧ s1912.snd < (↑w0.Joints.length : Int))
  (Let (ix w0.Joints s1912.snd) fun (x1915 : Joint) =>
  Rx.Bind (caromref24_Validate x1915) fun (r1916 : Int) =>
  Let (r1916 != (0 : Int)) fun (x1917 : Bool) =>
  Let (decide (x1915.ID ≥ w0.NextID)) fun (x1918 : Bool) =>
  Let (bif x1917 then true else x1918) fun (x1919 : Bool) =>
  Let (decide (s1912.snd > (0 : Int))) fun (x1920 : Bool) =>
  Let (decide (x1915.ID ≤ s1912.fst)) fun (x1921 : Bool) =>
  Let (bif x1920 then x1921 else false) fun (x1922 : Bool) =>
  Let (bif x1919 then true else x1922) fun (x1923 : Bool) =>
  Rx.Bind (if (x1923 == false) = true then caromref25_connected w0 x1915 else some default) fun (r1924 : Bool) =>
  Let (!r1924) fun (x1925 : Bool) =>
  Let (bif x1923 then true else x1925) fun (x1926 : Bool) =>
  Rx.Bind (if (x1926 == false) = true then caromref25_FindBody w0 x1915.ID else some default) fun (r1927 : Int) =>
  Let (decide (r1927 ≥ (0 : Int))) fun (x1928 : Bool) =>
  Let (bif x1926 then true else x1928) fun (x1929 : Bool) =>
  if x1929 = true then some false
  else Let (IntKind.i64.wrap (s1912.snd + (1 : Int))) fun (x1930 : Int) => rec1911 (x1915.ID, x1930))
  else some true)
  fuel ((0 : Int), (0 : Int))

noncomputable def caromref25_Keys (l0 : (List Contact)) : Option (List PairKey) :=
  LOOP
  (fun (rec1931 : List PairKey × Int → Option (List PairKey)) (s1932 : List PairKey × Int) =>
  Let (↑l0.length : Int) fun (x1933 : Int) =>
  Let (decide (s1932.snd < x1933)) fun (x1934 : Bool) =>
  if x1934 = true then
  Chk ((0 : Int) ≤ s1932.snd ∧ s1932.snd < (↑l0.length : Int))
  (Let (ix l0 s1932.snd) fun (x1935 : Contact) =>
  Chk ((List.length s1932.fst + [x1935.Key].length) * (32 : Nat) ≤ (140737488355328 : Nat))
  (Let (s1932.fst ++ [x1935.Key]) fun (x1936 : List PairKey) =>
  Let (IntKind.i64.wrap (s1932.snd + (1 : Int))) fun (x1937 : Int) => rec1931 (x1936, x1937)))
  else some s1932.fst)
  fuel ([], (0 : Int))

noncomputable def caromref22_Less (a0 : PairKey) (b1 : PairKey) : Option Bool :=
  Let (a0.BodyA != b1.BodyA) fun (x1938 : Bool) =>
  if x1938 = true then Let (decide (a0.BodyA < b1.BodyA)) fun (x1939 : Bool) => some x1939
  else
  Let (a0.FixtureA != b1.FixtureA) fun (x1940 : Bool) =>
  if x1940 = true then Let (decide (a0.FixtureA < b1.FixtureA)) fun (x1941 : Bool) => some x1941
  else
  Let (a0.BodyB != b1.BodyB) fun (x1942 : Bool) =>
  if x1942 = true then Let (decide (a0.BodyB < b1.BodyB)) fun (x1943 : Bool) => some x1943
  else Let (decide (a0.FixtureB < b1.FixtureB)) fun (x1944 : Bool) => some x1944

noncomputable def caromref22_ValidKeys (l0 : (List PairKey)) : Option Bool :=
  LOOP
  (fun (rec1945 : Int → Option Bool) (s1946 : Int) =>
  Let (↑l0.length : Int) fun (x1947 : Int) =>
  Let (decide (s1946 < x1947)) fun (x1948 : Bool) =>
  if x1948 = true then
  Chk ((0 : Int) ≤ s1946 ∧ s1946 < (↑l0.length : Int))
  (Let (ix l0 s1946) fun (x1949 : PairKey) =>
  Let (decide (x1949.BodyA ≥ x1949.BodyB)) fun (x1950 : Bool) =>
  Let (decide (x1949.FixtureA < (0 : Int))) fun (x1951 : Bool) =>
  Let (bif x1950 then true else x1951) fun (x1952 : Bool) =>
  Let (decide (x1949.FixtureA > (3 : Int))) fun (x1953 : Bool) =>
  Let (bif x1952 then true else x1953) fun (x1954 : Bool) =>
  Let (decide (x1949.FixtureB < (0 : Int))) fun (x1955 : Bool) =>
  Let (bif x1954 then true else x1955) fun (x1956 : Bool) =>
  Let (decide (x1949.FixtureB > (3 : Int))) fun (x1957 : Bool) =>
  Let (bif x1956 then true else x1957) fun (x1958 : Bool) =>
  Let (decide (s1946 > (0 : Int))) fun (x1959 : Bool) =>
  Let (IntKind.i64.wrap (s1946 - (1 : Int))) fun (x1960 : Int) =>
  Chk ((x1958 == false && x1959 == true) = true → (0 : Int) ≤ x1960 ∧ x1960 < (↑l0.length : Int))
  (Let (ix l0 x1960) fun (x1961 : PairKey) =>
  Rx.Bind (if (x1958 == false && x1959 == true) = true then caromref22_Less x1961 x1949 else some default)
  fun (r1962 : Bool) =>
  Let (!r1962) fun (x1963 : Bool) =>
  Let (bif x1959 then x1963 else false) fun (x1964 : Bool) =>
  Let (bif x1958 then true else x1964) fun (x1965 : Bool) =>
  if x1965 = true then some false else Let (IntKind.i64.wrap (s1946 + (1 : Int))) fun (x1966 : Int) => rec1945 x1966))
  else some true)
  fuel (0 : Int)

noncomputable def caromref25_exists (w0 : World_) (id1 : Int) (n2 : Int) : Option Bool :=
  Rx.Bind (caromref25_FindBody w0 id1) fun (r1967 : Int) =>
  Let (decide (r1967 ≥ (0 : Int))) fun (x1968 : Bool) =>
  Let (decide (n2 ≥ (0 : Int))) fun (x1969 : Bool) =>
  Let (bif x1968 then x1969 else false) fun (x1970 : Bool) =>
  Chk ((x1970 == true) = true → (0 : Int) ≤ r1967 ∧ r1967 < (↑w0.Bodies.length : Int))
  (Let (ix w0.Bodies r1967) fun (x1971 : Body) =>
  Let (↑x1971.Fixtures.length : Int) fun (x1972 : Int) =>
  Let (decide (n2 < x1972)) fun (x1973 : Bool) => Let (bif x1970 then x1973 else false) fun (x1974 : Bool) => some x1974)

noncomputable def caromref25_resolved (w0 : World_) (l1 : (List PairKey)) : Option Bool :=
  LOOP
  (fun (rec1975 : Int → Option Bool) (s1976 : Int) =>
  Let (↑l1.length : Int) fun (x1977 : Int) =>
  Let (decide (s1976 < x1977)) fun (x1978 : Bool) =>
  if x1978 = true then
  Chk ((0 : Int) ≤ s1976 ∧ s1976 < (↑l1.length : Int))
  (Let (ix l1 s1976) fun (x1979 : PairKey) =>
  Chk ((0 : Int) ≤ s1976 ∧ s1976 < (↑l1.length : Int))
  (Let (ix l1 s1976) fun (x1980 : PairKey) =>
  Rx.Bind (caromref25_exists w0 x1979.BodyA x1980.FixtureA) fun (r1981 : Bool) =>
  Let (!r1981) fun (x1982 : Bool) =>
  Chk ((x1982 == false) = true → (0 : Int) ≤ s1976 ∧ s1976 < (↑l1.length : Int))
  (Let (ix l1 s1976) fun (x1983 : PairKey) =>
  Chk ((x1982 == false) = true → (0 : Int) ≤ s1976 ∧ s1976 < (↑l1.length : Int))
  (Let (ix l1 s1976) fun (x1984 : PairKey) =>
  Rx.Bind (if (x1982 == false) = true then caromref25_exists w0 x1983.BodyB x1984.FixtureB else some default)
  fun (r1985 : Bool) =>
  Let (!r1985) fun (x1986 : Bool) =>
  Let (bif x1982 then true else x1986) fun (x1987 : Bool) =>
  if x1987 = true then some false else Let (IntKind.i64.wrap (s1976 + (1 : Int))) fun (x1988 : Int) => rec1975 x1988))))
  else some true)
  fuel (0 : Int)

noncomputable def caromref25_saturated (v0 : Vec) : Option Bool :=
  Rx.Bind (caromref25_in v0.X (-536870911 : Int) (536870911 : Int)) fun (r1989 : Bool) =>
  Rx.Bind (if (r1989 == true) = true then caromref25_in v0.Y (-536870911 : Int) (536870911 : Int) else some default)
  fun (r1990 : Bool) => Let (bif r1989 then r1990 else false) fun (x1991 : Bool) => some x1991

noncomputable def caromref25_validPoints (m0 : Manifold) : Option Bool :=
  Let (↑m0.Points.length : Int) fun (x1992 : Int) =>
  Let (decide (x1992 < (1 : Int))) fun (x1993 : Bool) =>
  Let (decide (x1992 > (2 : Int))) fun (x1994 : Bool) =>
  Let (bif x1993 then true else x1994) fun (x1995 : Bool) =>
  Let (x1992 == (2 : Int)) fun (x1996 : Bool) =>
  Chk ((x1995 == false && x1996 == true) = true → (0 : Int) ≤ (0 : Int) ∧ (0 : Int) < (↑m0.Points.length : Int))
  (Let (ix m0.Points (0 : Int)) fun (x1997 : ContactPoint) =>
  Chk ((x1995 == false && x1996 == true) = true → (0 : Int) ≤ (1 : Int) ∧ (1 : Int) < (↑m0.Points.length : Int))
  (Let (ix m0.Points (1 : Int)) fun (x1998 : ContactPoint) =>
  Let (x1997.ID == x1998.ID) fun (x1999 : Bool) =>
  Let (bif x1996 then x1999 else false) fun (x2000 : Bool) =>
  Let (bif x1995 then true else x2000) fun (x2001 : Bool) =>
  Rx.Bind (if (x2001 == false) = true then caromref25_saturated m0.Normal else some default) fun (r2002 : Bool) =>
  Let (!r2002) fun (x2003 : Bool) =>
  Let (bif x2001 then true else x2003) fun (x2004 : Bool) =>
  if x2004 = true then some false
  else
  LOOP
  (fun (rec2005 : Int → Option Bool) (s2006 : Int) =>
  Let (decide (s2006 < x1992)) fun (x2007 : Bool) =>
  if x2007 = true then
  Chk ((0 : Int) ≤ s2006 ∧ s2006 < (↑m0.Points.length : Int))
  (Let (ix m0.Points s2006) fun (x2008 : ContactPoint) =>
  Rx.Bind (caromref25_in x2008.NormalImpulse (0 : Int) (536870911 : Int)) fun (r2009 : Bool) =>
  Let (!r2009) fun (x2010 : Bool) =>
  Rx.Bind
  (if (x2010 == false) = true then caromref25_in x2008.TangentImpulse (-536870911 : Int) (536870911 : Int)
  else some default)
  fun (r2011 : Bool) =>
  Let (!r2011) fun (x2012 : Bool) =>
  Let (bif x2010 then true else x2012) fun (x2013 : Bool) =>
  Rx.Bind (if (x2013 == false) = true then caromref25_saturated x2008.Point else some default) fun (r2014 : Bool) =>
  Let (!r2014) fun (x2015 : Bool) =>
  Let (bif x2013 then true else x2015) fun (x2016 : Bool) =>
  Rx.Bind
  (if (x2016 == false) = true then caromref25_saturated { X := x2008.Separation, Y := x2008.ID : Vec } else some default)
  fun (r2017 : Bool) =>
  Let (!r2017) fun (x2018 : Bool) =>
  Let (bif x2016 then true else x2018) fun (x2019 : Bool) =>
  if x2019 = true then some false else Let (IntKind.i64.wrap (s2006 + (1 : Int))) fun (x2020 : Int) => rec2005 x2020)
  else some true)
  fuel (0 : Int)))

noncomputable def caromref25_validContacts (w0 : World_) : Option Bool :=
  Rx.Bind (caromref25_Keys w0.Contacts) fun (r2021 : List PairKey) =>
  Rx.Bind (caromref22_ValidKeys r2021) fun (r2022 : Bool) =>
  Let (!r2022) fun (x2023 : Bool) =>
  Rx.Bind (if (x2023 == false) = true then caromref22_ValidKeys w0.Overlaps else some default) fun (r2024 : Bool) =>
  Let (!r2024) fun (x2025 : Bool) =>
  Let (bif x2023 then true else x2025) fun (x2026 : Bool) =>
  Rx.Bind (if (x2026 == false) = true then caromref25_resolved w0 r2021 else some default) fun (r2027 : Bool) =>
  Let (!r2027) fun (x2028 : Bool) =>
  Let (bif x2026 then true else x2028) fun (x2029 : Bool) =>
  Rx.Bind (if (x2029 == false) = true then caromref25_resolved w0 w0.Overlaps else some default) fun (r2030 : Bool) =>
  Let (!r2030) fun (x2031 : Bool) =>
  Let (bif x2029 then true else x2031) fun (x2032 : Bool) =>
  if x2032 = true then some false
  else
  LOOP
  (fun (rec2033 : Int → Option Bool) (s2034 : Int) =>
  Let (↑w0.Contacts.length : Int) fun (x2035 : Int) =>
  Let (decide (s2034 < x2035)) fun (x2036 : Bool) =>
  if x2036 = true then
  Chk ((0 : Int) ≤ s2034 ∧ s2034 < (↑w0.Contacts.length : Int))
  (Let (ix w0.Contacts s2034) fun (x2037 : Contact) =>
  Rx.Bind (caromref25_validPoints x2037.Manifold) fun (r2038 : Bool) =>
  Let (!r2038) fun (x2039 : Bool) =>
  if x2039 = true then some false else Let (IntKind.i64.wrap (s2034 + (1 : Int))) fun (x2040 : Int) => rec2033 x2040)
  else some true)
  fuel (0 : Int)

noncomputable def caromref25_Validate (w0 : World_) : Option Int :=
  Rx.Bind (caromref25_ValidateSettings w0.Settings) fun (r2041 : Int) =>
  Let (r2041 != (0 : Int)) fun (x2042 : Bool) =>
  if x2042 = true then some (17 : Int)
  else
  Let (↑w0.Bodies.length : Int) fun (x2043 : Int) =>
  Let (decide (x2043 > (32 : Int))) fun (x2044 : Bool) =>
  Let (↑w0.Joints.length : Int) fun (x2045 : Int) =>
  Let (decide (x2045 > (32 : Int))) fun (x2046 : Bool) =>
  Let (bif x2044 then true else x2046) fun (x2047 : Bool) =>
  Let (↑w0.Contacts.length : Int) fun (x2048 : Int) =>
  Let (decide (x2048 > (8192 : Int))) fun (x2049 : Bool) =>
  Let (bif x2047 then true else x2049) fun (x2050 : Bool) =>
  Let (↑w0.Overlaps.length : Int) fun (x2051 : Int) =>
  Let (decide (x2051 > (8192 : Int))) fun (x2052 : Bool) =>
  Let (bif x2050 then true else x2052) fun (x2053 : Bool) =>
  if x2053 = true then some (11 : Int)
  else
  Rx.Bind (caromref25_in w0.NextID (1 : Int) (1099511627776 : Int)) fun (r2054 : Bool) =>
  Let (!r2054) fun (x2055 : Bool) =>
  Rx.Bind (if (x2055 == false) = true then caromref25_in w0.Frame (0 : Int) (1099511627776 : Int) else some default)
  fun (r2056 : Bool) =>
  Let (!r2056) fun (x2057 : Bool) =>
  Let (bif x2055 then true else x2057) fun (x2058 : Bool) =>
  if x2058 = true then some (6 : Int)
  else
  Rx.Bind (caromref25_validBodies w0) fun (r2059 : Bool) =>
  Let (!r2059) fun (x2060 : Bool) =>
  if x2060 = true then some (14 : Int)
  else
  Rx.Bind (caromref25_validJoints w0) fun (r2061 : Bool) =>
  Let (!r2061) fun (x2062 : Bool) =>
  if x2062 = true then some (15 : Int)
  else
  Rx.Bind (caromref25_validContacts w0) fun (r2063 : Bool) =>
  Let (!r2063) fun (x2064 : Bool) => if x2064 = true then some (16 : Int) else some (0 : Int)

noncomputable def caromref12_Clone (s0 : Shape) : Option Shape :=
  Chk (s0.Vertices.length * (16 : Nat) ≤ (140737488355328 : Nat)) (some s0)

noncomputable def caromref23_Clone (b0 : Body) : Option Body :=
  LOOP
  (fun (rec2065 : List Fixture × Int → Option Body) (s2066 : List Fixture × Int) =>
  Let (↑b0.Fixtures.length : Int) fun (x2067 : Int) =>
  Let (decide (s2066.snd < x2067)) fun (x2068 : Bool) =>
  if x2068 = true then
  Chk ((0 : Int) ≤ s2066.snd ∧ s2066.snd < (↑b0.Fixtures.length : Int))
  (Let (ix b0.Fixtures s2066.snd) fun (x2069 : Fixture) =>
  Rx.Bind (caromref12_Clone x2069.Shape) fun (r2070 : Shape) =>
  Chk
  ((List.length s2066.fst +
  [{ Shape := r2070, Density := x2069.Density, Friction := x2069.Friction, Restitution := x2069.Restitution, Sensor := x2069.Sensor, Category := x2069.Category, Mask := x2069.Mask, Group := x2069.Group : Fixture }].length) *
  (96 : Nat) ≤
  (140737488355328 : Nat))
  (Let
  (s2066.fst ++
  [{ Shape := r2070, Density := x2069.Density, Friction := x2069.Friction, Restitution := x2069.Restitution, Sensor := x2069.Sensor, Category := x2069.Category, Mask := x2069.Mask, Group := x2069.Group : Fixture }])
  fun (x2071 : List Fixture) =>
  Let (IntKind.i64.wrap (s2066.snd + (1 : Int))) fun (x2072 : Int) => rec2065 (x2071, x2072)))
  else
  some
  { ID := b0.ID, Kind := b0.Kind, Transform := b0.Transform, Velocity := b0.Velocity, AngularVelocity := b0.AngularVelocity, Force := b0.Force, Torque := b0.Torque, LinearDamping := b0.LinearDamping, AngularDamping := b0.AngularDamping, GravityScale := b0.GravityScale, Bullet := b0.Bullet, FixedRotation := b0.FixedRotation, NoSleep := b0.NoSleep, Asleep := b0.Asleep, IdleSteps := b0.IdleSteps, Fixtures := s2066.fst : Body })
  fuel ([], (0 : Int))

noncomputable def caromref16_Clone (m0 : Manifold) : Option Manifold :=
  Chk (m0.Points.length * (48 : Nat) ≤ (140737488355328 : Nat)) (some m0)

noncomputable def caromref25_Clone (w0 : World_) : Option World_ :=
  LOOP
  (fun (rec2073 : Int × World_ → Option World_) (s2074 : Int × World_) =>
  Let (↑w0.Bodies.length : Int) fun (x2075 : Int) =>
  Let (decide (s2074.fst < x2075)) fun (x2076 : Bool) =>
  if x2076 = true then
  Chk ((0 : Int) ≤ s2074.fst ∧ s2074.fst < (↑w0.Bodies.length : Int))
  (Let (ix w0.Bodies s2074.fst) fun (x2077 : Body) =>
  Rx.Bind (caromref23_Clone x2077) fun (r2078 : Body) =>
  Chk ((s2074.snd.Bodies.length + [r2078].length) * (152 : Nat) ≤ (140737488355328 : Nat))
  (Let (s2074.snd.Bodies ++ [r2078]) fun (x2079 : List Body) =>
  Let (IntKind.i64.wrap (s2074.fst + (1 : Int))) fun (x2080 : Int) =>
  rec2073
  (x2080,
  { Settings := s2074.snd.Settings, Bodies := x2079, Joints := s2074.snd.Joints, Contacts := s2074.snd.Contacts, Overlaps := s2074.snd.Overlaps, NextID := s2074.snd.NextID, Frame := s2074.snd.Frame : World_ })))
  else
  Chk (w0.Joints.length * (192 : Nat) ≤ (140737488355328 : Nat))
  (LOOP
  (fun (rec2081 : Int × World_ → Option World_) (s2082 : Int × World_) =>
  Let (↑w0.Contacts.length : Int) fun (x2083 : Int) =>
  Let (decide (s2082.fst < x2083)) fun (x2084 : Bool) =>
  if x2084 = true then
  Chk ((0 : Int) ≤ s2082.fst ∧ s2082.fst < (↑w0.Contacts.length : Int))
  (Let (ix w0.Contacts s2082.fst) fun (x2085 : Contact) =>
  Chk ((0 : Int) ≤ s2082.fst ∧ s2082.fst < (↑w0.Contacts.length : Int))
  (Let (ix w0.Contacts s2082.fst) fun (x2086 : Contact) =>
  Rx.Bind (caromref16_Clone x2086.Manifold) fun (r2087 : Manifold) =>
  Chk
  ((s2082.snd.Contacts.length + [{ Key := x2085.Key, Manifold := r2087 : Contact }].length) * (72 : Nat) ≤
  (140737488355328 : Nat))
  (Let (s2082.snd.Contacts ++ [{ Key := x2085.Key, Manifold := r2087 : Contact }]) fun (x2088 : List Contact) =>
  Let (IntKind.i64.wrap (s2082.fst + (1 : Int))) fun (x2089 : Int) =>
  rec2081
  (x2089,
  { Settings := s2082.snd.Settings, Bodies := s2082.snd.Bodies, Joints := s2082.snd.Joints, Contacts := x2088, Overlaps := s2082.snd.Overlaps, NextID := s2082.snd.NextID, Frame := s2082.snd.Frame : World_ }))))
  else
  Chk (w0.Overlaps.length * (32 : Nat) ≤ (140737488355328 : Nat))
  (some
  { Settings := s2082.snd.Settings, Bodies := s2082.snd.Bodies, Joints := s2082.snd.Joints, Contacts := s2082.snd.Contacts, Overlaps := w0.Overlaps, NextID := s2082.snd.NextID, Frame := s2082.snd.Frame : World_ }))
  fuel
  ((0 : Int),
  { Settings := s2074.snd.Settings, Bodies := s2074.snd.Bodies, Joints := w0.Joints, Contacts := s2074.snd.Contacts, Overlaps := s2074.snd.Overlaps, NextID := s2074.snd.NextID, Frame := s2074.snd.Frame : World_ })))
  fuel
  ((0 : Int),
  { Settings := w0.Settings, Bodies := [], Joints := w0.Joints, Contacts := [], Overlaps := w0.Overlaps, NextID := w0.NextID, Frame := w0.Frame : World_ })

noncomputable def caromref25_AddBody (w0 : World_) (b1 : Body) : Option (World_ × Int × Int) :=
  Let (↑w0.Bodies.length : Int) fun (x2090 : Int) =>
  Let (decide (x2090 ≥ (32 : Int))) fun (x2091 : Bool) =>
  Let (decide (w0.NextID ≥ (1099511627776 : Int))) fun (x2092 : Bool) =>
  Let (bif x2091 then true else x2092) fun (x2093 : Bool) =>
  if x2093 = true then
  some
  ({ Settings := { TimeStep := (0 : Int), Gravity := { X := (0 : Int), Y := (0 : Int) : Vec }, Iterations := (0 : Int), SleepSteps := (0 : Int) : Settings }, Bodies := [], Joints := [], Contacts := [], Overlaps := [], NextID := (0 : Int), Frame := (0 : Int) : World_ },
  (0 : Int), (9 : Int))
  else
  Rx.Bind
  (caromref23_Validate
  { ID := w0.NextID, Kind := b1.Kind, Transform := b1.Transform, Velocity := b1.Velocity, AngularVelocity := b1.AngularVelocity, Force := b1.Force, Torque := b1.Torque, LinearDamping := b1.LinearDamping, AngularDamping := b1.AngularDamping, GravityScale := b1.GravityScale, Bullet := b1.Bullet, FixedRotation := b1.FixedRotation, NoSleep := b1.NoSleep, Asleep := b1.Asleep, IdleSteps := b1.IdleSteps, Fixtures := b1.Fixtures : Body })
  fun (r2094 : Int) =>
  Let (r2094 != (0 : Int)) fun (x2095 : Bool) =>
  if x2095 = true then
  some
  ({ Settings := { TimeStep := (0 : Int), Gravity := { X := (0 : Int), Y := (0 : Int) : Vec }, Iterations := (0 : Int), SleepSteps := (0 : Int) : Settings }, Bodies := [], Joints := [], Contacts := [], Overlaps := [], NextID := (0 : Int), Frame := (0 : Int) : World_ },
  (0 : Int), (14 : Int))
  else
  Rx.Bind (caromref25_Clone w0) fun (r2096 : World_) =>
  Rx.Bind
  (caromref23_Clone
  { ID := w0.NextID, Kind := b1.Kind, Transform := b1.Transform, Velocity := b1.Velocity, AngularVelocity := b1.AngularVelocity, Force := b1.Force, Torque := b1.Torque, LinearDamping := b1.LinearDamping, AngularDamping := b1.AngularDamping, GravityScale := b1.GravityScale, Bullet := b1.Bullet, FixedRotation := b1.FixedRotation, NoSleep := b1.NoSleep, Asleep := b1.Asleep, IdleSteps := b1.IdleSteps, Fixtures := b1.Fixtures : Body })
  fun (r2097 : Body) =>
  Chk ((r2096.Bodies.length + [r2097].length) * (152 : Nat) ≤ (140737488355328 : Nat))
  (Let (r2096.Bodies ++ [r2097]) fun (x2098 : List Body) =>
  Let (IntKind.i64.wrap (w0.NextID + (1 : Int))) fun (x2099 : Int) =>
  some
  ({ Settings := r2096.Settings, Bodies := x2098, Joints := r2096.Joints, Contacts := r2096.Contacts, Overlaps := r2096.Overlaps, NextID := x2099, Frame := r2096.Frame : World_ },
  w0.NextID, (0 : Int)))

noncomputable def caromref25_WakeBody (w0 : World_) (id1 : Int) : Option World_ :=
  Rx.Bind (caromref25_Clone w0) fun (r2100 : World_) =>
  Rx.Bind (caromref25_FindBody w0 id1) fun (r2101 : Int) =>
  Join
  (fun (v2102 : List Body) =>
  some
  { Settings := r2100.Settings, Bodies := v2102, Joints := r2100.Joints, Contacts := r2100.Contacts, Overlaps := r2100.Overlaps, NextID := r2100.NextID, Frame := r2100.Frame : World_ })
  fun (j2103 : List Body → Option World_) =>
  Let (decide (r2101 ≥ (0 : Int))) fun (x2104 : Bool) =>
  Chk ((x2104 == true) = true → (0 : Int) ≤ r2101 ∧ r2101 < (↑w0.Bodies.length : Int))
  (Let (ix w0.Bodies r2101) fun (x2105 : Body) =>
  Let (x2105.Kind == (3 : Int)) fun (x2106 : Bool) =>
  Let (bif x2104 then x2106 else false) fun (x2107 : Bool) =>
  if x2107 = true then
  Chk ((0 : Int) ≤ r2101 ∧ r2101 < (↑r2100.Bodies.length : Int))
  (Chk ((0 : Int) ≤ r2101 ∧ r2101 < (↑r2100.Bodies.length : Int))
  (Let
  (r2100.Bodies.set r2101.toNat
  { ID := (ix r2100.Bodies r2101).ID, Kind := (ix r2100.Bodies r2101).Kind, Transform := (ix r2100.Bodies r2101).Transform, Velocity := (ix r2100.Bodies r2101).Velocity, AngularVelocity := (ix r2100.Bodies r2101).AngularVelocity, Force := (ix r2100.Bodies r2101).Force, Torque := (ix r2100.Bodies r2101).Torque, LinearDamping := (ix r2100.Bodies r2101).LinearDamping, AngularDamping := (ix r2100.Bodies r2101).AngularDamping, GravityScale := (ix r2100.Bodies r2101).GravityScale, Bullet := (ix r2100.Bodies r2101).Bullet, FixedRotation := (ix r2100.Bodies r2101).FixedRotation, NoSleep := (ix r2100.Bodies r2101).NoSleep, Asleep := false, IdleSteps := (ix r2100.Bodies r2101).IdleSteps, Fixtures := (ix r2100.Bodies r2101).Fixtures : Body })
  fun (x2108 : List Body) =>
  Chk ((0 : Int) ≤ r2101 ∧ r2101 < (↑x2108.length : Int))
  (Chk ((0 : Int) ≤ r2101 ∧ r2101 < (↑x2108.length : Int))
  (Let
  (x2108.set r2101.toNat
  { ID := (ix x2108 r2101).ID, Kind := (ix x2108 r2101).Kind, Transform := (ix x2108 r2101).Transform, Velocity := (ix x2108 r2101).Velocity, AngularVelocity := (ix x2108 r2101).AngularVelocity, Force := (ix x2108 r2101).Force, Torque := (ix x2108 r2101).Torque, LinearDamping := (ix x2108 r2101).LinearDamping, AngularDamping := (ix x2108 r2101).AngularDamping, GravityScale := (ix x2108 r2101).GravityScale, Bullet := (ix x2108 r2101).Bullet, FixedRotation := (ix x2108 r2101).FixedRotation, NoSleep := (ix x2108 r2101).NoSleep, Asleep := (ix x2108 r2101).Asleep, IdleSteps := (0 : Int), Fixtures := (ix x2108 r2101).Fixtures : Body })
  fun (x2109 : List Body) => j2103 x2109))))
  else j2103 r2100.Bodies)

noncomputable def caromref25_AddJoint (w0 : World_) (j1 : Joint) : Option (World_ × Int × Int) :=
  Let (↑w0.Joints.length : Int) fun (x2110 : Int) =>
  Let (decide (x2110 ≥ (32 : Int))) fun (x2111 : Bool) =>
  Let (decide (w0.NextID ≥ (1099511627776 : Int))) fun (x2112 : Bool) =>
  Let (bif x2111 then true else x2112) fun (x2113 : Bool) =>
  if x2113 = true then
  some
  ({ Settings := { TimeStep := (0 : Int), Gravity := { X := (0 : Int), Y := (0 : Int) : Vec }, Iterations := (0 : Int), SleepSteps := (0 : Int) : Settings }, Bodies := [], Joints := [], Contacts := [], Overlaps := [], NextID := (0 : Int), Frame := (0 : Int) : World_ },
  (0 : Int), (9 : Int))
  else
  Rx.Bind
  (caromref24_Validate
  { ID := w0.NextID, Kind := j1.Kind, BodyA := j1.BodyA, BodyB := j1.BodyB, AnchorA := j1.AnchorA, AnchorB := j1.AnchorB, Axis := j1.Axis, ReferenceAngle := j1.ReferenceAngle, EnableLimit := j1.EnableLimit, Lower := j1.Lower, Upper := j1.Upper, EnableMotor := j1.EnableMotor, MotorSpeed := j1.MotorSpeed, MaxForce := j1.MaxForce, Softness := j1.Softness, BreakForce := j1.BreakForce, CollideConnected := j1.CollideConnected, Impulses := ((0 : Int), (0 : Int), (0 : Int), (0 : Int)) : Joint })
  fun (r2114 : Int) =>
  Let (r2114 != (0 : Int)) fun (x2115 : Bool) =>
  Rx.Bind
  (if (x2115 == false) = true then
  caromref25_connected w0
  { ID := w0.NextID, Kind := j1.Kind, BodyA := j1.BodyA, BodyB := j1.BodyB, AnchorA := j1.AnchorA, AnchorB := j1.AnchorB, Axis := j1.Axis, ReferenceAngle := j1.ReferenceAngle, EnableLimit := j1.EnableLimit, Lower := j1.Lower, Upper := j1.Upper, EnableMotor := j1.EnableMotor, MotorSpeed := j1.MotorSpeed, MaxForce := j1.MaxForce, Softness := j1.Softness, BreakForce := j1.BreakForce, CollideConnected := j1.CollideConnected, Impulses := ((0 : Int), (0 : Int), (0 : Int), (0 : Int)) : Joint }
  else some default)
  fun (r2116 : Bool) =>
  Let (!r2116) fun (x2117 : Bool) =>
  Let (bif x2115 then true else x2117) fun (x2118 : Bool) =>
  if x2118 = true then
  some
  ({ Settings := { TimeStep := (0 : Int), Gravity := { X := (0 : Int), Y := (0 : Int) : Vec }, Iterations := (0 : Int), SleepSteps := (0 : Int) : Settings }, Bodies := [], Joints := [], Contacts := [], Overlaps := [], NextID := (0 : Int), Frame := (0 : Int) : World_ },
  (0 : Int), (15 : Int))
  else
  Rx.Bind (caromref25_Clone w0) fun (r2119 : World_) =>
  Chk
  ((r2119.Joints.length +
  [{ ID := w0.NextID, Kind := j1.Kind, BodyA := j1.BodyA, BodyB := j1.BodyB, AnchorA := j1.AnchorA, AnchorB := j1.AnchorB, Axis := j1.Axis, ReferenceAngle := j1.ReferenceAngle, EnableLimit := j1.EnableLimit, Lower := j1.Lower, Upper := j1.Upper, EnableMotor := j1.EnableMotor, MotorSpeed := j1.MotorSpeed, MaxForce := j1.MaxForce, Softness := j1.Softness, BreakForce := j1.BreakForce, CollideConnected := j1.CollideConnected, Impulses := ((0 : Int), (0 : Int), (0 : Int), (0 : Int)) : Joint }].length) *
  (192 : Nat) ≤
  (140737488355328 : Nat))
  (Let
  (r2119.Joints ++
  [{ ID := w0.NextID, Kind := j1.Kind, BodyA := j1.BodyA, BodyB := j1.BodyB, AnchorA := j1.AnchorA, AnchorB := j1.AnchorB, Axis := j1.Axis, ReferenceAngle := j1.ReferenceAngle, EnableLimit := j1.EnableLimit, Lower := j1.Lower, Upper := j1.Upper, EnableMotor := j1.EnableMotor, MotorSpeed := j1.MotorSpeed, MaxForce := j1.MaxForce, Softness := j1.Softness, BreakForce := j1.BreakForce, CollideConnected := j1.CollideConnected, Impulses := ((0 : Int), (0 : Int), (0 : Int), (0 : Int)) : Joint }])
  fun (x2120 : List Joint) => Let (IntKind.i64.wrap (w0.NextID + (1 : Int))) fun (x2121 : Int) => none)

noncomputable def caromref24_Attached (j0 : Joint) (id1 : Int) : Option Bool :=
  Let (id1 != (0 : Int)) fun (x2122 : Bool) =>
  Let (j0.BodyA == id1) fun (x2123 : Bool) =>
  Let (j0.BodyB == id1) fun (x2124 : Bool) =>
  Let (bif x2123 then true else x2124) fun (x2125 : Bool) =>
  Let (bif x2122 then x2125 else false) fun (x2126 : Bool) => some x2126

noncomputable def caromref25_other (k0 : PairKey) (id1 : Int) : Option (Int × Bool) :=
  Let (k0.BodyA == id1) fun (x2127 : Bool) =>
  if x2127 = true then some (k0.BodyB, true) else Let (k0.BodyB == id1) fun (x2128 : Bool) => some (k0.BodyA, x2128)

noncomputable def caromref25_RemoveBody (w0 : World_) (id1 : Int) : Option (World_ × Int) :=
  Rx.Bind (caromref25_FindBody w0 id1) fun (r2129 : Int) =>
  Let (decide (r2129 < (0 : Int))) fun (x2130 : Bool) =>
  if x2130 = true then
  some
  ({ Settings := { TimeStep := (0 : Int), Gravity := { X := (0 : Int), Y := (0 : Int) : Vec }, Iterations := (0 : Int), SleepSteps := (0 : Int) : Settings }, Bodies := [], Joints := [], Contacts := [], Overlaps := [], NextID := (0 : Int), Frame := (0 : Int) : World_ },
  (8 : Int))
  else
  Rx.Bind (caromref25_Clone w0) fun (r2131 : World_) =>
  Chk
  ((0 : Int) ≤ none.getD (0 : Int) ∧
  (0 : Int) ≤ (some r2129).getD (0 : Int) ∧ (0 : Nat) ≤ r2129.toNat ∧ r2129.toNat ≤ r2131.Bodies.length)
  (Let (IntKind.i64.wrap (r2129 + (1 : Int))) fun (x2132 : Int) =>
  Chk
  ((0 : Int) ≤ (some x2132).getD (0 : Int) ∧
  (0 : Int) ≤ none.getD (0 : Int) ∧ x2132.toNat ≤ r2131.Bodies.length ∧ r2131.Bodies.length ≤ r2131.Bodies.length)
  (Chk (x2132.toNat + (r2131.Bodies.length - x2132.toNat) ≤ r2131.Bodies.length)
  (Let (List.take (r2131.Bodies.length - x2132.toNat) (List.drop x2132.toNat r2131.Bodies)) fun (x2133 : List Body) =>
  Chk
  ((0 : Nat) + (r2129.toNat - (0 : Nat) + x2133.length) ≤ r2131.Bodies.length ∧
  r2129.toNat - (0 : Nat) + x2133.length ≤ r2131.Bodies.length - (0 : Nat) ∧ (0 : Nat) < r2131.Bodies.length - (0 : Nat))
  (Let
  (List.take ((0 : Nat) + (r2129.toNat - (0 : Nat))) r2131.Bodies ++ x2133 ++
  List.drop ((0 : Nat) + (r2129.toNat - (0 : Nat)) + x2133.length) r2131.Bodies)
  fun (x2134 : List Body) =>
  Chk (r2129.toNat - (0 : Nat) + x2133.length ≤ x2134.length)
  (Let (List.take (r2129.toNat - (0 : Nat) + x2133.length) x2134) fun (x2135 : List Body) =>
  LOOP
  (fun (rec2136 : List Int × Int × World_ → Option (World_ × Int)) (s2137 : List Int × Int × World_) =>
  Let (↑w0.Joints.length : Int) fun (x2138 : Int) =>
  Let (decide (s2137.snd.fst < x2138)) fun (x2139 : Bool) =>
  if x2139 = true then
  Join
  (fun (v2140 : List Int × World_) =>
  Let (IntKind.i64.wrap (s2137.snd.fst + (1 : Int))) fun (x2141 : Int) => rec2136 (v2140.fst, x2141, v2140.snd))
  fun (j2142 : List Int × World_ → Option (World_ × Int)) =>
  Chk ((0 : Int) ≤ s2137.snd.fst ∧ s2137.snd.fst < (↑w0.Joints.length : Int))
  (Let (ix w0.Joints s2137.snd.fst) fun (x2143 : Joint) =>
  Rx.Bind (caromref24_Attached x2143 id1) fun (r2144 : Bool) =>
  if r2144 = true then
  Chk ((List.length s2137.fst + [x2143.BodyA, x2143.BodyB].length) * (8 : Nat) ≤ (140737488355328 : Nat))
  (Let (s2137.fst ++ [x2143.BodyA, x2143.BodyB]) fun (x2145 : List Int) => j2142 (x2145, s2137.snd.snd))
  else
  Chk ((s2137.snd.snd.Joints.length + [x2143].length) * (192 : Nat) ≤ (140737488355328 : Nat))
  (Let (s2137.snd.snd.Joints ++ [x2143]) fun (x2146 : List Joint) =>
  j2142
  (s2137.fst,
  { Settings := s2137.snd.snd.Settings, Bodies := s2137.snd.snd.Bodies, Joints := x2146, Contacts := s2137.snd.snd.Contacts, Overlaps := s2137.snd.snd.Overlaps, NextID := s2137.snd.snd.NextID, Frame := s2137.snd.snd.Frame : World_ })))
  else
  LOOP
  (fun (rec2147 : List Int × Int × World_ → Option (World_ × Int)) (s2148 : List Int × Int × World_) =>
  Let (↑w0.Contacts.length : Int) fun (x2149 : Int) =>
  Let (decide (s2148.snd.fst < x2149)) fun (x2150 : Bool) =>
  if x2150 = true then
  Join
  (fun (v2151 : List Int × World_) =>
  Let (IntKind.i64.wrap (s2148.snd.fst + (1 : Int))) fun (x2152 : Int) => rec2147 (v2151.fst, x2152, v2151.snd))
  fun (j2153 : List Int × World_ → Option (World_ × Int)) =>
  Chk ((0 : Int) ≤ s2148.snd.fst ∧ s2148.snd.fst < (↑w0.Contacts.length : Int))
  (Let (ix w0.Contacts s2148.snd.fst) fun (x2154 : Contact) =>
  Rx.Bind (caromref25_other x2154.Key id1) fun (r2155 : Int × Bool) =>
  if r2155.snd = true then
  Chk ((List.length s2148.fst + [r2155.fst].length) * (8 : Nat) ≤ (140737488355328 : Nat))
  (Let (s2148.fst ++ [r2155.fst]) fun (x2156 : List Int) => j2153 (x2156, s2148.snd.snd))
  else
  Chk ((0 : Int) ≤ s2148.snd.fst ∧ s2148.snd.fst < (↑w0.Contacts.length : Int))
  (Let (ix w0.Contacts s2148.snd.fst) fun (x2157 : Contact) =>
  Chk ((0 : Int) ≤ s2148.snd.fst ∧ s2148.snd.fst < (↑w0.Contacts.length : Int))
  (Let (ix w0.Contacts s2148.snd.fst) fun (x2158 : Contact) =>
  Rx.Bind (caromref16_Clone x2158.Manifold) fun (r2159 : Manifold) =>
  Chk
  ((s2148.snd.snd.Contacts.length + [{ Key := x2157.Key, Manifold := r2159 : Contact }].length) * (72 : Nat) ≤
  (140737488355328 : Nat))
  (Let (s2148.snd.snd.Contacts ++ [{ Key := x2157.Key, Manifold := r2159 : Contact }]) fun (x2160 : List Contact) =>
  j2153
  (s2148.fst,
  { Settings := s2148.snd.snd.Settings, Bodies := s2148.snd.snd.Bodies, Joints := s2148.snd.snd.Joints, Contacts := x2160, Overlaps := s2148.snd.snd.Overlaps, NextID := s2148.snd.snd.NextID, Frame := s2148.snd.snd.Frame : World_ })))))
  else
  LOOP
  (fun (rec2161 : Int × World_ → Option (World_ × Int)) (s2162 : Int × World_) =>
  Let (↑w0.Overlaps.length : Int) fun (x2163 : Int) =>
  Let (decide (s2162.fst < x2163)) fun (x2164 : Bool) =>
  if x2164 = true then
  Join
  (fun (v2165 : World_) => Let (IntKind.i64.wrap (s2162.fst + (1 : Int))) fun (x2166 : Int) => rec2161 (x2166, v2165))
  fun (j2167 : World_ → Option (World_ × Int)) =>
  Chk ((0 : Int) ≤ s2162.fst ∧ s2162.fst < (↑w0.Overlaps.length : Int))
  (Let (ix w0.Overlaps s2162.fst) fun (x2168 : PairKey) =>
  Rx.Bind (caromref25_other x2168 id1) fun (r2169 : Int × Bool) =>
  Let (!r2169.snd) fun (x2170 : Bool) =>
  if x2170 = true then
  Chk ((0 : Int) ≤ s2162.fst ∧ s2162.fst < (↑w0.Overlaps.length : Int))
  (Let (ix w0.Overlaps s2162.fst) fun (x2171 : PairKey) =>
  Chk ((s2162.snd.Overlaps.length + [x2171].length) * (32 : Nat) ≤ (140737488355328 : Nat))
  (Let (s2162.snd.Overlaps ++ [x2171]) fun (x2172 : List PairKey) =>
  j2167
  { Settings := s2162.snd.Settings, Bodies := s2162.snd.Bodies, Joints := s2162.snd.Joints, Contacts := s2162.snd.Contacts, Overlaps := x2172, NextID := s2162.snd.NextID, Frame := s2162.snd.Frame : World_ }))
  else j2167 s2162.snd)
  else
  LOOP
  (fun (rec2173 : Int × World_ → Option (World_ × Int)) (s2174 : Int × World_) =>
  Let (↑(List.length s2148.fst) : Int) fun (x2175 : Int) =>
  Let (decide (s2174.fst < x2175)) fun (x2176 : Bool) =>
  if x2176 = true then
  Join
  (fun (v2177 : World_) => Let (IntKind.i64.wrap (s2174.fst + (1 : Int))) fun (x2178 : Int) => rec2173 (x2178, v2177))
  fun (j2179 : World_ → Option (World_ × Int)) =>
  Chk ((0 : Int) ≤ s2174.fst ∧ s2174.fst < (↑(List.length s2148.fst) : Int))
  (Chk ((0 : Int) ≤ s2174.fst ∧ s2174.fst < (↑(List.length s2148.fst) : Int))
  (Let (ix s2148.fst s2174.fst) fun (x2180 : Int) =>
  Let (x2180 != id1) fun (x2181 : Bool) =>
  if x2181 = true then
  Chk ((0 : Int) ≤ s2174.fst ∧ s2174.fst < (↑(List.length s2148.fst) : Int))
  (Chk ((0 : Int) ≤ s2174.fst ∧ s2174.fst < (↑(List.length s2148.fst) : Int))
  (Let (ix s2148.fst s2174.fst) fun (x2182 : Int) =>
  Rx.Bind (caromref25_WakeBody s2174.snd x2182) fun (r2183 : World_) => j2179 r2183))
  else j2179 s2174.snd))
  else some (s2174.snd, (0 : Int)))
  fuel ((0 : Int), s2162.snd))
  fuel ((0 : Int), s2148.snd.snd))
  fuel (s2137.fst, (0 : Int), s2137.snd.snd))
  fuel
  ([], (0 : Int),
  { Settings := r2131.Settings, Bodies := x2135, Joints := [], Contacts := [], Overlaps := [], NextID := r2131.NextID, Frame := r2131.Frame : World_ }))))))

noncomputable def caromref25_FindJoint (w0 : World_) (id1 : Int) : Option Int :=
  LOOP
  (fun (rec2184 : Int → Option Int) (s2185 : Int) =>
  Let (↑w0.Joints.length : Int) fun (x2186 : Int) =>
  Let (decide (s2185 < x2186)) fun (x2187 : Bool) =>
  if x2187 = true then
  Chk ((0 : Int) ≤ s2185 ∧ s2185 < (↑w0.Joints.length : Int))
  (Let (ix w0.Joints s2185) fun (x2188 : Joint) =>
  Let (x2188.ID == id1) fun (x2189 : Bool) =>
  if x2189 = true then some s2185 else Let (IntKind.i64.wrap (s2185 + (1 : Int))) fun (x2190 : Int) => rec2184 x2190)
  else some (-1 : Int))
  fuel (0 : Int)

noncomputable def caromref25_RemoveJoint (w0 : World_) (id1 : Int) : Option (World_ × Int) :=
  Rx.Bind (caromref25_FindJoint w0 id1) fun (r2191 : Int) =>
  Let (decide (r2191 < (0 : Int))) fun (x2192 : Bool) =>
  if x2192 = true then
  some
  ({ Settings := { TimeStep := (0 : Int), Gravity := { X := (0 : Int), Y := (0 : Int) : Vec }, Iterations := (0 : Int), SleepSteps := (0 : Int) : Settings }, Bodies := [], Joints := [], Contacts := [], Overlaps := [], NextID := (0 : Int), Frame := (0 : Int) : World_ },
  (8 : Int))
  else
  Rx.Bind (caromref25_Clone w0) fun (r2193 : World_) =>
  Chk
  ((0 : Int) ≤ none.getD (0 : Int) ∧
  (0 : Int) ≤ (some r2191).getD (0 : Int) ∧ (0 : Nat) ≤ r2191.toNat ∧ r2191.toNat ≤ r2193.Joints.length)
  (Let (IntKind.i64.wrap (r2191 + (1 : Int))) fun (x2194 : Int) =>
  Chk
  ((0 : Int) ≤ (some x2194).getD (0 : Int) ∧
  (0 : Int) ≤ none.getD (0 : Int) ∧ x2194.toNat ≤ r2193.Joints.length ∧ r2193.Joints.length ≤ r2193.Joints.length)
  (Chk (x2194.toNat + (r2193.Joints.length - x2194.toNat) ≤ r2193.Joints.length)
  (Let (List.take (r2193.Joints.length - x2194.toNat) (List.drop x2194.toNat r2193.Joints)) fun (x2195 : List Joint) =>
  Chk
  ((0 : Nat) + (r2191.toNat - (0 : Nat) + x2195.length) ≤ r2193.Joints.length ∧
  r2191.toNat - (0 : Nat) + x2195.length ≤ r2193.Joints.length - (0 : Nat) ∧ (0 : Nat) < r2193.Joints.length - (0 : Nat))
  (Let
  (List.take ((0 : Nat) + (r2191.toNat - (0 : Nat))) r2193.Joints ++ x2195 ++
  List.drop ((0 : Nat) + (r2191.toNat - (0 : Nat)) + x2195.length) r2193.Joints)
  fun (x2196 : List Joint) =>
  Chk (r2191.toNat - (0 : Nat) + x2195.length ≤ x2196.length)
  (Let (List.take (r2191.toNat - (0 : Nat) + x2195.length) x2196) fun (x2197 : List Joint) =>
  Chk ((0 : Int) ≤ r2191 ∧ r2191 < (↑w0.Joints.length : Int)) (Let (ix w0.Joints r2191) fun (x2198 : Joint) => none))))))

noncomputable def caromref43_joint (w0 : World_) (x1 : Input) : Option (World_ × Int) :=
  Rx.Bind (caromref25_FindJoint w0 x1.ID) fun (r2199 : Int) =>
  Let (decide (r2199 < (0 : Int))) fun (x2200 : Bool) =>
  if x2200 = true then
  some
  ({ Settings := { TimeStep := (0 : Int), Gravity := { X := (0 : Int), Y := (0 : Int) : Vec }, Iterations := (0 : Int), SleepSteps := (0 : Int) : Settings }, Bodies := [], Joints := [], Contacts := [], Overlaps := [], NextID := (0 : Int), Frame := (0 : Int) : World_ },
  (8 : Int))
  else
  Chk ((0 : Int) ≤ r2199 ∧ r2199 < (↑w0.Joints.length : Int))
  (Let (ix w0.Joints r2199) fun (x2201 : Joint) =>
  Let (x1.Kind == (7 : Int)) fun (x2202 : Bool) =>
  Let (x2201.Kind != (5 : Int)) fun (x2203 : Bool) =>
  Let (bif x2202 then x2203 else false) fun (x2204 : Bool) =>
  Let (x1.Kind == (8 : Int)) fun (x2205 : Bool) =>
  Let (!x2201.EnableMotor) fun (x2206 : Bool) =>
  Let (bif x2205 then x2206 else false) fun (x2207 : Bool) =>
  Let (bif x2204 then true else x2207) fun (x2208 : Bool) =>
  if x2208 = true then
  some
  ({ Settings := { TimeStep := (0 : Int), Gravity := { X := (0 : Int), Y := (0 : Int) : Vec }, Iterations := (0 : Int), SleepSteps := (0 : Int) : Settings }, Bodies := [], Joints := [], Contacts := [], Overlaps := [], NextID := (0 : Int), Frame := (0 : Int) : World_ },
  (10 : Int))
  else
  Join
  (fun (v2209 : Joint) =>
  Rx.Bind (caromref24_Validate v2209) fun (r2210 : Int) =>
  Let (r2210 != (0 : Int)) fun (x2211 : Bool) =>
  if x2211 = true then
  some
  ({ Settings := { TimeStep := (0 : Int), Gravity := { X := (0 : Int), Y := (0 : Int) : Vec }, Iterations := (0 : Int), SleepSteps := (0 : Int) : Settings }, Bodies := [], Joints := [], Contacts := [], Overlaps := [], NextID := (0 : Int), Frame := (0 : Int) : World_ },
  (6 : Int))
  else
  Rx.Bind (caromref25_Clone w0) fun (r2212 : World_) =>
  Chk ((0 : Int) ≤ r2199 ∧ r2199 < (↑r2212.Joints.length : Int))
  (Chk ((0 : Int) ≤ r2199 ∧ r2199 < (↑r2212.Joints.length : Int))
  (Let (r2212.Joints.set r2199.toNat v2209) fun (x2213 : List Joint) => none)))
  fun (j2214 : Joint → Option (World_ × Int)) =>
  Let (x1.Kind == (7 : Int)) fun (x2215 : Bool) =>
  if x2215 = true then
  j2214
  { ID := x2201.ID, Kind := x2201.Kind, BodyA := x2201.BodyA, BodyB := x2201.BodyB, AnchorA := x1.Vec, AnchorB := x2201.AnchorB, Axis := x2201.Axis, ReferenceAngle := x2201.ReferenceAngle, EnableLimit := x2201.EnableLimit, Lower := x2201.Lower, Upper := x2201.Upper, EnableMotor := x2201.EnableMotor, MotorSpeed := x2201.MotorSpeed, MaxForce := x2201.MaxForce, Softness := x2201.Softness, BreakForce := x2201.BreakForce, CollideConnected := x2201.CollideConnected, Impulses := x2201.Impulses : Joint }
  else
  j2214
  { ID := x2201.ID, Kind := x2201.Kind, BodyA := x2201.BodyA, BodyB := x2201.BodyB, AnchorA := x2201.AnchorA, AnchorB := x2201.AnchorB, Axis := x2201.Axis, ReferenceAngle := x2201.ReferenceAngle, EnableLimit := x2201.EnableLimit, Lower := x2201.Lower, Upper := x2201.Upper, EnableMotor := x2201.EnableMotor, MotorSpeed := x1.Value, MaxForce := x2201.MaxForce, Softness := x2201.Softness, BreakForce := x2201.BreakForce, CollideConnected := x2201.CollideConnected, Impulses := x2201.Impulses : Joint })

noncomputable def caromref01_Mul (a0 : Int) (b1 : Int) : Option Int :=
  Rx.Bind (caromref01_Saturate a0) fun (r2216 : Int) =>
  Rx.Bind (caromref01_Saturate b1) fun (r2217 : Int) =>
  Let (IntKind.i64.wrap (r2216 * r2217)) fun (x2218 : Int) =>
  Rx.Bind (caromref01_RoundDiv x2218 (65536 : Int)) fun (r2219 : Int) =>
  Rx.Bind (caromref01_Saturate r2219) fun (r2220 : Int) => some r2220

noncomputable def caromref01_Add (a0 : Int) (b1 : Int) : Option Int :=
  Rx.Bind (caromref01_Saturate a0) fun (r2221 : Int) =>
  Rx.Bind (caromref01_Saturate b1) fun (r2222 : Int) =>
  Let (IntKind.i64.wrap (r2221 + r2222)) fun (x2223 : Int) =>
  Rx.Bind (caromref01_Saturate x2223) fun (r2224 : Int) => some r2224

noncomputable def caromref01_Lerp (a0 : Int) (b1 : Int) (t2 : Int) : Option Int :=
  Rx.Bind (caromref01_Sub b1 a0) fun (r2225 : Int) =>
  Rx.Bind (caromref01_Mul r2225 t2) fun (r2226 : Int) => Rx.Bind (caromref01_Add a0 r2226) fun (r2227 : Int) => some r2227

noncomputable def caromref03_Lerp (a0 : Vec) (b1 : Vec) (t2 : Int) : Option Vec :=
  Rx.Bind (caromref01_Lerp a0.X b1.X t2) fun (r2228 : Int) =>
  Rx.Bind (caromref01_Lerp a0.Y b1.Y t2) fun (r2229 : Int) => some { X := r2228, Y := r2229 : Vec }

noncomputable def caromref11_Centroid (vertices0 : (List Vec)) : Option Vec :=
  Rx.Bind (caromref11_IsConvex vertices0) fun (r2230 : Bool) =>
  Let (!r2230) fun (x2231 : Bool) =>
  if x2231 = true then some { X := (0 : Int), Y := (0 : Int) : Vec }
  else
  Chk ((0 : Int) ≤ (0 : Int) ∧ (0 : Int) < (↑vertices0.length : Int))
  (Let (ix vertices0 (0 : Int)) fun (x2232 : Vec) =>
  LOOP
  (fun (rec2233 : Int × Int × Int × Int → Option Vec) (s2234 : Int × Int × Int × Int) =>
  Let (IntKind.i64.wrap (s2234.snd.snd.snd + (1 : Int))) fun (x2235 : Int) =>
  Let (↑vertices0.length : Int) fun (x2236 : Int) =>
  Let (decide (x2235 < x2236)) fun (x2237 : Bool) =>
  if x2237 = true then
  Chk ((0 : Int) ≤ s2234.snd.snd.snd ∧ s2234.snd.snd.snd < (↑vertices0.length : Int))
  (Let (ix vertices0 s2234.snd.snd.snd) fun (x2238 : Vec) =>
  Let (IntKind.i64.wrap (s2234.snd.snd.snd + (1 : Int))) fun (x2239 : Int) =>
  Chk ((0 : Int) ≤ x2239 ∧ x2239 < (↑vertices0.length : Int))
  (Let (ix vertices0 x2239) fun (x2240 : Vec) =>
  Rx.Bind (caromref11_cross vertices0 s2234.snd.snd.snd) fun (r2241 : Int) =>
  Let (IntKind.i64.wrap (s2234.fst + r2241)) fun (x2242 : Int) =>
  Let (IntKind.i64.wrap (x2238.X - x2232.X)) fun (x2243 : Int) =>
  Let (IntKind.i64.wrap (x2243 + x2240.X)) fun (x2244 : Int) =>
  Let (IntKind.i64.wrap (x2244 - x2232.X)) fun (x2245 : Int) =>
  Let (IntKind.i64.wrap (x2245 * r2241)) fun (x2246 : Int) =>
  Let (IntKind.i64.wrap (s2234.snd.fst + x2246)) fun (x2247 : Int) =>
  Let (IntKind.i64.wrap (x2238.Y - x2232.Y)) fun (x2248 : Int) =>
  Let (IntKind.i64.wrap (x2248 + x2240.Y)) fun (x2249 : Int) =>
  Let (IntKind.i64.wrap (x2249 - x2232.Y)) fun (x2250 : Int) =>
  Let (IntKind.i64.wrap (x2250 * r2241)) fun (x2251 : Int) =>
  Let (IntKind.i64.wrap (s2234.snd.snd.fst + x2251)) fun (x2252 : Int) =>
  Let (IntKind.i64.wrap (s2234.snd.snd.snd + (1 : Int))) fun (x2253 : Int) => rec2233 (x2242, x2247, x2252, x2253)))
  else
  Let (s2234.fst == (0 : Int)) fun (x2254 : Bool) =>
  if x2254 = true then some x2232
  else
  Let (IntKind.i64.wrap ((3 : Int) * s2234.fst)) fun (x2255 : Int) =>
  Rx.Bind (caromref01_RoundDiv s2234.snd.fst x2255) fun (r2256 : Int) =>
  Let (IntKind.i64.wrap (x2232.X + r2256)) fun (x2257 : Int) =>
  Let (IntKind.i64.wrap ((3 : Int) * s2234.fst)) fun (x2258 : Int) =>
  Rx.Bind (caromref01_RoundDiv s2234.snd.snd.fst x2258) fun (r2259 : Int) =>
  Let (IntKind.i64.wrap (x2232.Y + r2259)) fun (x2260 : Int) => some { X := x2257, Y := x2260 : Vec })
  fuel ((0 : Int), (0 : Int), (0 : Int), (1 : Int)))

noncomputable def caromref03_Cross (a0 : Vec) (b1 : Vec) : Option Int :=
  Rx.Bind (caromref03_Saturated a0) fun (r2261 : Vec) =>
  Rx.Bind (caromref03_Saturated b1) fun (r2262 : Vec) =>
  Let (IntKind.i64.wrap (r2261.X * r2262.Y)) fun (x2263 : Int) =>
  Let (IntKind.i64.wrap (r2261.Y * r2262.X)) fun (x2264 : Int) =>
  Let (IntKind.i64.wrap (x2263 - x2264)) fun (x2265 : Int) =>
  Rx.Bind (caromref01_RoundDiv x2265 (65536 : Int)) fun (r2266 : Int) =>
  Rx.Bind (caromref01_Saturate r2266) fun (r2267 : Int) => some r2267

noncomputable def caromref03_Dot (a0 : Vec) (b1 : Vec) : Option Int :=
  Rx.Bind (caromref03_Saturated a0) fun (r2268 : Vec) =>
  Rx.Bind (caromref03_Saturated b1) fun (r2269 : Vec) =>
  Let (IntKind.i64.wrap (r2268.X * r2269.X)) fun (x2270 : Int) =>
  Let (IntKind.i64.wrap (r2268.Y * r2269.Y)) fun (x2271 : Int) =>
  Let (IntKind.i64.wrap (x2270 + x2271)) fun (x2272 : Int) =>
  Rx.Bind (caromref01_RoundDiv x2272 (65536 : Int)) fun (r2273 : Int) =>
  Rx.Bind (caromref01_Saturate r2273) fun (r2274 : Int) => some r2274

noncomputable def caromref13_polygonInertia (pts0 : (List Vec)) (c1 : Vec) (m2 : Int) : Option Int :=
  LOOP
  (fun (rec2275 : Int × Int × Int → Option Int) (s2276 : Int × Int × Int) =>
  Let (↑pts0.length : Int) fun (x2277 : Int) =>
  Let (decide (s2276.snd.snd < x2277)) fun (x2278 : Bool) =>
  if x2278 = true then
  Chk ((0 : Int) ≤ s2276.snd.snd ∧ s2276.snd.snd < (↑pts0.length : Int))
  (Let (ix pts0 s2276.snd.snd) fun (x2279 : Vec) =>
  Rx.Bind (caromref03_Sub x2279 c1) fun (r2280 : Vec) =>
  Let (IntKind.i64.wrap (s2276.snd.snd + (1 : Int))) fun (x2281 : Int) =>
  Let (↑pts0.length : Int) fun (x2282 : Int) =>
  Chk (x2282 ≠ (0 : Int))
  (Let (x2281.tmod x2282) fun (x2283 : Int) =>
  Chk ((0 : Int) ≤ x2283 ∧ x2283 < (↑pts0.length : Int))
  (Let (ix pts0 x2283) fun (x2284 : Vec) =>
  Rx.Bind (caromref03_Sub x2284 c1) fun (r2285 : Vec) =>
  Rx.Bind (caromref03_Cross r2280 r2285) fun (r2286 : Int) =>
  Let (IntKind.i64.wrap (s2276.snd.fst + r2286)) fun (x2287 : Int) =>
  Rx.Bind (caromref03_Dot r2280 r2280) fun (r2288 : Int) =>
  Rx.Bind (caromref03_Dot r2280 r2285) fun (r2289 : Int) =>
  Let (IntKind.i64.wrap (r2288 + r2289)) fun (x2290 : Int) =>
  Rx.Bind (caromref03_Dot r2285 r2285) fun (r2291 : Int) =>
  Let (IntKind.i64.wrap (x2290 + r2291)) fun (x2292 : Int) =>
  Let (IntKind.i64.wrap (r2286 * x2292)) fun (x2293 : Int) =>
  Let (IntKind.i64.wrap (s2276.fst + x2293)) fun (x2294 : Int) =>
  Let (IntKind.i64.wrap (s2276.snd.snd + (1 : Int))) fun (x2295 : Int) => rec2275 (x2294, x2287, x2295))))
  else
  Let (decide (s2276.snd.fst < (1 : Int))) fun (x2296 : Bool) =>
  if x2296 = true then some (0 : Int)
  else
  Rx.Bind (caromref01_RoundDiv s2276.fst s2276.snd.fst) fun (r2297 : Int) =>
  Rx.Bind (caromref01_RoundDiv r2297 (6 : Int)) fun (r2298 : Int) =>
  Rx.Bind (caromref01_Mul m2 r2298) fun (r2299 : Int) => some r2299)
  fuel ((0 : Int), (0 : Int), (0 : Int))

noncomputable def caromref13_OfShape (s0 : Shape) (density1 : Int) : Option MassData :=
  Rx.Bind (caromref12_Validate s0) fun (r2300 : Int) =>
  Let (r2300 != (0 : Int)) fun (x2301 : Bool) =>
  Let (decide (density1 < (0 : Int))) fun (x2302 : Bool) =>
  Let (bif x2301 then true else x2302) fun (x2303 : Bool) =>
  Let (decide (density1 > (262144 : Int))) fun (x2304 : Bool) =>
  Let (bif x2303 then true else x2304) fun (x2305 : Bool) =>
  if x2305 = true then
  some { Mass := (0 : Int), Center := { X := (0 : Int), Y := (0 : Int) : Vec }, Inertia := (0 : Int) : MassData }
  else
  Rx.Bind (caromref01_Mul s0.Radius s0.Radius) fun (r2306 : Int) =>
  Rx.Bind (caromref01_Mul (205888 : Int) r2306) fun (r2307 : Int) =>
  Let (s0.Kind == (1 : Int)) fun (x2308 : Bool) =>
  if x2308 = true then
  Rx.Bind (caromref01_Mul r2307 density1) fun (r2309 : Int) =>
  Chk ((0 : Int) ≤ (0 : Int) ∧ (0 : Int) < (↑s0.Vertices.length : Int))
  (Let (ix s0.Vertices (0 : Int)) fun (x2310 : Vec) =>
  Rx.Bind (caromref01_RoundDiv r2306 (2 : Int)) fun (r2311 : Int) =>
  Rx.Bind (caromref01_Mul r2309 r2311) fun (r2312 : Int) =>
  some { Mass := r2309, Center := x2310, Inertia := r2312 : MassData })
  else
  Let (s0.Kind == (2 : Int)) fun (x2313 : Bool) =>
  if x2313 = true then
  Chk ((0 : Int) ≤ (1 : Int) ∧ (1 : Int) < (↑s0.Vertices.length : Int))
  (Let (ix s0.Vertices (1 : Int)) fun (x2314 : Vec) =>
  Chk ((0 : Int) ≤ (0 : Int) ∧ (0 : Int) < (↑s0.Vertices.length : Int))
  (Let (ix s0.Vertices (0 : Int)) fun (x2315 : Vec) =>
  Rx.Bind (caromref03_Sub x2314 x2315) fun (r2316 : Vec) =>
  Rx.Bind (caromref03_Length r2316) fun (r2317 : Int) =>
  Rx.Bind (caromref01_Add s0.Radius s0.Radius) fun (r2318 : Int) =>
  Rx.Bind (caromref01_Mul r2318 r2317) fun (r2319 : Int) =>
  Rx.Bind (caromref01_Add r2307 r2319) fun (r2320 : Int) =>
  Rx.Bind (caromref01_Mul r2320 density1) fun (r2321 : Int) =>
  Chk ((0 : Int) ≤ (0 : Int) ∧ (0 : Int) < (↑s0.Vertices.length : Int))
  (Let (ix s0.Vertices (0 : Int)) fun (x2322 : Vec) =>
  Chk ((0 : Int) ≤ (1 : Int) ∧ (1 : Int) < (↑s0.Vertices.length : Int))
  (Let (ix s0.Vertices (1 : Int)) fun (x2323 : Vec) =>
  Rx.Bind (caromref03_Lerp x2322 x2323 (32768 : Int)) fun (r2324 : Vec) =>
  Rx.Bind (caromref01_RoundDiv r2306 (2 : Int)) fun (r2325 : Int) =>
  Rx.Bind (caromref01_Mul r2317 r2317) fun (r2326 : Int) =>
  Rx.Bind (caromref01_RoundDiv r2326 (12 : Int)) fun (r2327 : Int) =>
  Rx.Bind (caromref01_Add r2325 r2327) fun (r2328 : Int) =>
  Rx.Bind (caromref01_Mul r2321 r2328) fun (r2329 : Int) =>
  some { Mass := r2321, Center := r2324, Inertia := r2329 : MassData }))))
  else
  Rx.Bind (caromref11_Area s0.Vertices) fun (r2330 : Int) =>
  Rx.Bind (caromref01_Mul r2330 density1) fun (r2331 : Int) =>
  Rx.Bind (caromref11_Centroid s0.Vertices) fun (r2332 : Vec) =>
  Rx.Bind (caromref13_polygonInertia s0.Vertices r2332 r2331) fun (r2333 : Int) =>
  some { Mass := r2331, Center := r2332, Inertia := r2333 : MassData }

noncomputable def caromref13_Combine (l0 : (List MassData)) : Option MassData :=
  Let (↑l0.length : Int) fun (x2334 : Int) =>
  Let (decide (x2334 > (8 : Int))) fun (x2335 : Bool) =>
  if x2335 = true then
  some { Mass := (0 : Int), Center := { X := (0 : Int), Y := (0 : Int) : Vec }, Inertia := (0 : Int) : MassData }
  else
  LOOP
  (fun (rec2336 : Int × Int × Int × Int × MassData × MassData → Option MassData)
  (s2337 : Int × Int × Int × Int × MassData × MassData) =>
  Let (↑l0.length : Int) fun (x2338 : Int) =>
  Let (decide (s2337.snd.snd.snd.fst < x2338)) fun (x2339 : Bool) =>
  if x2339 = true then
  Chk ((0 : Int) ≤ s2337.snd.snd.snd.fst ∧ s2337.snd.snd.snd.fst < (↑l0.length : Int))
  (Let (ix l0 s2337.snd.snd.snd.fst) fun (x2340 : MassData) =>
  Let (decide (x2340.Mass < (0 : Int))) fun (x2341 : Bool) =>
  if x2341 = true then
  some { Mass := (0 : Int), Center := { X := (0 : Int), Y := (0 : Int) : Vec }, Inertia := (0 : Int) : MassData }
  else
  Chk ((0 : Int) ≤ s2337.snd.snd.snd.fst ∧ s2337.snd.snd.snd.fst < (↑l0.length : Int))
  (Let (ix l0 s2337.snd.snd.snd.fst) fun (x2342 : MassData) =>
  Rx.Bind (caromref01_Saturate x2342.Mass) fun (r2343 : Int) =>
  Rx.Bind (caromref01_Add s2337.snd.snd.snd.snd.snd.Mass r2343) fun (r2344 : Int) =>
  Let (IntKind.i64.wrap (s2337.fst + r2343)) fun (x2345 : Int) =>
  Chk ((0 : Int) ≤ s2337.snd.snd.snd.fst ∧ s2337.snd.snd.snd.fst < (↑l0.length : Int))
  (Let (ix l0 s2337.snd.snd.snd.fst) fun (x2346 : MassData) =>
  Rx.Bind (caromref01_Saturate x2346.Center.X) fun (r2347 : Int) =>
  Let (IntKind.i64.wrap (r2343 * r2347)) fun (x2348 : Int) =>
  Let (IntKind.i64.wrap (s2337.snd.fst + x2348)) fun (x2349 : Int) =>
  Chk ((0 : Int) ≤ s2337.snd.snd.snd.fst ∧ s2337.snd.snd.snd.fst < (↑l0.length : Int))
  (Let (ix l0 s2337.snd.snd.snd.fst) fun (x2350 : MassData) =>
  Rx.Bind (caromref01_Saturate x2350.Center.Y) fun (r2351 : Int) =>
  Let (IntKind.i64.wrap (r2343 * r2351)) fun (x2352 : Int) =>
  Let (IntKind.i64.wrap (s2337.snd.snd.fst + x2352)) fun (x2353 : Int) =>
  Let (IntKind.i64.wrap (s2337.snd.snd.snd.fst + (1 : Int))) fun (x2354 : Int) =>
  rec2336
  (x2345, x2349, x2353, x2354, s2337.snd.snd.snd.snd.fst,
  { Mass := r2344, Center := s2337.snd.snd.snd.snd.snd.Center, Inertia := s2337.snd.snd.snd.snd.snd.Inertia : MassData })))))
  else
  Join
  (fun (v2355 : MassData) =>
  LOOP
  (fun (rec2356 : Int × MassData → Option MassData) (s2357 : Int × MassData) =>
  Let (↑l0.length : Int) fun (x2358 : Int) =>
  Let (decide (s2357.fst < x2358)) fun (x2359 : Bool) =>
  if x2359 = true then
  Chk ((0 : Int) ≤ s2357.fst ∧ s2357.fst < (↑l0.length : Int))
  (Let (ix l0 s2357.fst) fun (x2360 : MassData) =>
  Rx.Bind (caromref03_Sub x2360.Center s2357.snd.Center) fun (r2361 : Vec) =>
  Chk ((0 : Int) ≤ s2357.fst ∧ s2357.fst < (↑l0.length : Int))
  (Let (ix l0 s2357.fst) fun (x2362 : MassData) =>
  Rx.Bind (caromref01_Add s2357.snd.Inertia x2362.Inertia) fun (r2363 : Int) =>
  Chk ((0 : Int) ≤ s2357.fst ∧ s2357.fst < (↑l0.length : Int))
  (Let (ix l0 s2357.fst) fun (x2364 : MassData) =>
  Rx.Bind (caromref03_Dot r2361 r2361) fun (r2365 : Int) =>
  Rx.Bind (caromref01_Mul x2364.Mass r2365) fun (r2366 : Int) =>
  Rx.Bind (caromref01_Add r2363 r2366) fun (r2367 : Int) =>
  Let (IntKind.i64.wrap (s2357.fst + (1 : Int))) fun (x2368 : Int) =>
  rec2356 (x2368, { Mass := s2357.snd.Mass, Center := s2357.snd.Center, Inertia := r2367 : MassData }))))
  else some s2357.snd)
  fuel ((0 : Int), v2355))
  fun (j2369 : MassData → Option MassData) =>
  Let (decide (s2337.fst > (0 : Int))) fun (x2370 : Bool) =>
  if x2370 = true then
  Rx.Bind (caromref01_RoundDiv s2337.snd.fst s2337.fst) fun (r2371 : Int) =>
  Rx.Bind (caromref01_RoundDiv s2337.snd.snd.fst s2337.fst) fun (r2372 : Int) =>
  j2369
  { Mass := s2337.snd.snd.snd.snd.snd.Mass, Center := { X := r2371, Y := r2372 : Vec }, Inertia := s2337.snd.snd.snd.snd.snd.Inertia : MassData }
  else j2369 s2337.snd.snd.snd.snd.snd)
  fuel
  ((0 : Int), (0 : Int), (0 : Int), (0 : Int),
  { Mass := (0 : Int), Center := { X := (0 : Int), Y := (0 : Int) : Vec }, Inertia := (0 : Int) : MassData },
  { Mass := (0 : Int), Center := { X := (0 : Int), Y := (0 : Int) : Vec }, Inertia := (0 : Int) : MassData })

noncomputable def caromref13_OfFixtures (fixtures0 : (List Fixture)) : Option MassData :=
  Let (↑fixtures0.length : Int) fun (x2373 : Int) =>
  Let (decide (x2373 > (4 : Int))) fun (x2374 : Bool) =>
  if x2374 = true then
  some { Mass := (0 : Int), Center := { X := (0 : Int), Y := (0 : Int) : Vec }, Inertia := (0 : Int) : MassData }
  else
  LOOP
  (fun (rec2375 : List MassData × Int → Option MassData) (s2376 : List MassData × Int) =>
  Let (↑fixtures0.length : Int) fun (x2377 : Int) =>
  Let (decide (s2376.snd < x2377)) fun (x2378 : Bool) =>
  if x2378 = true then
  Join
  (fun (v2379 : List MassData) =>
  Let (IntKind.i64.wrap (s2376.snd + (1 : Int))) fun (x2380 : Int) => rec2375 (v2379, x2380))
  fun (j2381 : List MassData → Option MassData) =>
  Chk ((0 : Int) ≤ s2376.snd ∧ s2376.snd < (↑fixtures0.length : Int))
  (Let (ix fixtures0 s2376.snd) fun (x2382 : Fixture) =>
  Let (!x2382.Sensor) fun (x2383 : Bool) =>
  if x2383 = true then
  Chk ((0 : Int) ≤ s2376.snd ∧ s2376.snd < (↑fixtures0.length : Int))
  (Let (ix fixtures0 s2376.snd) fun (x2384 : Fixture) =>
  Chk ((0 : Int) ≤ s2376.snd ∧ s2376.snd < (↑fixtures0.length : Int))
  (Let (ix fixtures0 s2376.snd) fun (x2385 : Fixture) =>
  Rx.Bind (caromref13_OfShape x2384.Shape x2385.Density) fun (r2386 : MassData) =>
  Chk ((List.length s2376.fst + [r2386].length) * (32 : Nat) ≤ (140737488355328 : Nat))
  (Let (s2376.fst ++ [r2386]) fun (x2387 : List MassData) => j2381 x2387)))
  else j2381 s2376.fst)
  else Rx.Bind (caromref13_Combine s2376.fst) fun (r2388 : MassData) => some r2388)
  fuel ([], (0 : Int))

noncomputable def caromref23_MassData (b0 : Body) : Option MassData :=
  Rx.Bind (caromref13_OfFixtures b0.Fixtures) fun (r2389 : MassData) => some r2389

noncomputable def caromref02_Normalize (a0 : Int) : Option Int :=
  Let (a0.tmod (411776 : Int)) fun (x2390 : Int) =>
  Join
  (fun (v2391 : Int) =>
  Join (fun (v2392 : Int) => some v2392) fun (j2393 : Int → Option Int) =>
  Let (decide (v2391 < (-205888 : Int))) fun (x2394 : Bool) =>
  if x2394 = true then Let (IntKind.i64.wrap (v2391 + (411776 : Int))) fun (x2395 : Int) => j2393 x2395 else j2393 v2391)
  fun (j2396 : Int → Option Int) =>
  Let (decide (x2390 ≥ (205888 : Int))) fun (x2397 : Bool) =>
  if x2397 = true then Let (IntKind.i64.wrap (x2390 - (411776 : Int))) fun (x2398 : Int) => j2396 x2398 else j2396 x2390

noncomputable def caromref02_abs (x0 : Int) : Option Int :=
  Let (decide (x0 < (0 : Int))) fun (x2399 : Bool) =>
  if x2399 = true then Let (IntKind.i64.wrap ((0 : Int) - x0)) fun (x2400 : Int) => some x2400 else some x0

noncomputable def caromref01_Div (a0 : Int) (b1 : Int) : Option Int :=
  Rx.Bind (caromref01_Saturate a0) fun (r2401 : Int) =>
  Rx.Bind (caromref01_Saturate b1) fun (r2402 : Int) =>
  Let (r2402 == (0 : Int)) fun (x2403 : Bool) =>
  Let (decide (r2401 > (0 : Int))) fun (x2404 : Bool) =>
  Let (bif x2403 then x2404 else false) fun (x2405 : Bool) =>
  if x2405 = true then some (536870911 : Int)
  else
  Let (r2402 == (0 : Int)) fun (x2406 : Bool) =>
  Let (decide (r2401 < (0 : Int))) fun (x2407 : Bool) =>
  Let (bif x2406 then x2407 else false) fun (x2408 : Bool) =>
  if x2408 = true then some (-536870911 : Int)
  else
  Join
  (fun (v2409 : Int × Int) =>
  Let (IntKind.i64.wrap (v2409.fst * (65536 : Int))) fun (x2410 : Int) =>
  Rx.Bind (caromref01_RoundDiv x2410 v2409.snd) fun (r2411 : Int) =>
  Rx.Bind (caromref01_Saturate r2411) fun (r2412 : Int) => some r2412)
  fun (j2413 : Int × Int → Option Int) =>
  Let (decide (r2402 < (0 : Int))) fun (x2414 : Bool) =>
  if x2414 = true then
  Let (IntKind.i64.wrap ((0 : Int) - r2401)) fun (x2415 : Int) =>
  Let (IntKind.i64.wrap ((0 : Int) - r2402)) fun (x2416 : Int) => j2413 (x2415, x2416)
  else j2413 (r2401, r2402)

noncomputable def caromref02_firstQuadrant (x0 : Int) : Option Int :=
  Rx.Bind (caromref01_Div x0 (102944 : Int)) fun (r2417 : Int) =>
  Rx.Bind (caromref01_Mul r2417 r2417) fun (r2418 : Int) =>
  Rx.Bind (caromref01_Mul r2418 (4569 : Int)) fun (r2419 : Int) =>
  Rx.Bind (caromref01_Sub (41906 : Int) r2419) fun (r2420 : Int) =>
  Rx.Bind (caromref01_Mul r2418 r2420) fun (r2421 : Int) =>
  Rx.Bind (caromref01_Sub (102873 : Int) r2421) fun (r2422 : Int) =>
  Rx.Bind (caromref01_Mul r2417 r2422) fun (r2423 : Int) => some r2423

noncomputable def caromref02_Sin (a0 : Int) : Option Int :=
  Rx.Bind (caromref02_Normalize a0) fun (r2424 : Int) =>
  Rx.Bind (caromref02_abs r2424) fun (r2425 : Int) =>
  Join
  (fun (v2426 : Int) =>
  Let (decide (r2424 < (0 : Int))) fun (x2427 : Bool) =>
  if x2427 = true then
  Rx.Bind (caromref02_firstQuadrant v2426) fun (r2428 : Int) =>
  Let (IntKind.i64.wrap ((0 : Int) - r2428)) fun (x2429 : Int) => some x2429
  else Rx.Bind (caromref02_firstQuadrant v2426) fun (r2430 : Int) => some r2430)
  fun (j2431 : Int → Option Int) =>
  Let (decide (r2425 > (102944 : Int))) fun (x2432 : Bool) =>
  if x2432 = true then Let (IntKind.i64.wrap ((205888 : Int) - r2425)) fun (x2433 : Int) => j2431 x2433 else j2431 r2425

noncomputable def caromref02_Cos (a0 : Int) : Option Int :=
  Rx.Bind (caromref02_Normalize a0) fun (r2434 : Int) =>
  Rx.Bind (caromref02_abs r2434) fun (r2435 : Int) =>
  Let (IntKind.i64.wrap ((102944 : Int) - r2435)) fun (x2436 : Int) =>
  Rx.Bind (caromref02_Sin x2436) fun (r2437 : Int) => some r2437

noncomputable def caromref02_Rot (a0 : Int) : Option Rot :=
  Rx.Bind (caromref02_Cos a0) fun (r2438 : Int) =>
  Rx.Bind (caromref02_Sin a0) fun (r2439 : Int) =>
  Let (IntKind.i64.wrap (r2438 * r2438)) fun (x2440 : Int) =>
  Let (IntKind.i64.wrap (r2439 * r2439)) fun (x2441 : Int) =>
  Let (IntKind.i64.wrap (x2440 + x2441)) fun (x2442 : Int) =>
  Rx.Bind (caromref01_Isqrt x2442) fun (r2443 : Int) =>
  Rx.Bind (caromref01_Div r2438 r2443) fun (r2444 : Int) =>
  Rx.Bind (caromref01_Div r2439 r2443) fun (r2445 : Int) => some { Cos := r2444, Sin := r2445 : Rot }

noncomputable def caromref03_Rotate (r0 : Rot) (v1 : Vec) : Option Vec :=
  Rx.Bind (caromref01_Saturate r0.Cos) fun (r2446 : Int) =>
  Rx.Bind (caromref01_Saturate r0.Sin) fun (r2447 : Int) =>
  Rx.Bind (caromref03_Saturated v1) fun (r2448 : Vec) =>
  Let (IntKind.i64.wrap (r2446 * r2448.X)) fun (x2449 : Int) =>
  Let (IntKind.i64.wrap (r2447 * r2448.Y)) fun (x2450 : Int) =>
  Let (IntKind.i64.wrap (x2449 - x2450)) fun (x2451 : Int) =>
  Rx.Bind (caromref01_RoundDiv x2451 (65536 : Int)) fun (r2452 : Int) =>
  Let (IntKind.i64.wrap (r2447 * r2448.X)) fun (x2453 : Int) =>
  Let (IntKind.i64.wrap (r2446 * r2448.Y)) fun (x2454 : Int) =>
  Let (IntKind.i64.wrap (x2453 + x2454)) fun (x2455 : Int) =>
  Rx.Bind (caromref01_RoundDiv x2455 (65536 : Int)) fun (r2456 : Int) =>
  Rx.Bind (caromref03_Saturated { X := r2452, Y := r2456 : Vec }) fun (r2457 : Vec) => some r2457

noncomputable def caromref03_Add (a0 : Vec) (b1 : Vec) : Option Vec :=
  Rx.Bind (caromref01_Add a0.X b1.X) fun (r2458 : Int) =>
  Rx.Bind (caromref01_Add a0.Y b1.Y) fun (r2459 : Int) => some { X := r2458, Y := r2459 : Vec }

noncomputable def caromref04_Apply (p0 : Transform) (v1 : Vec) : Option Vec :=
  Rx.Bind (caromref02_Rot p0.Angle) fun (r2460 : Rot) =>
  Rx.Bind (caromref03_Rotate r2460 v1) fun (r2461 : Vec) =>
  Rx.Bind (caromref03_Add r2461 p0.Position) fun (r2462 : Vec) => some r2462

noncomputable def caromref23_WorldCenter (b0 : Body) : Option Vec :=
  Rx.Bind (caromref23_MassData b0) fun (r2463 : MassData) =>
  Rx.Bind (caromref04_Apply b0.Transform r2463.Center) fun (r2464 : Vec) => some r2464

noncomputable def caromref13_Inverse (h0 : MassData) (kind1 : Int) (fixedRotation2 : Bool) : Option (Int × Int) :=
  Let (kind1 != (3 : Int)) fun (x2465 : Bool) =>
  if x2465 = true then some ((0 : Int), (0 : Int))
  else
  Join
  (fun (v2466 : Int) =>
  Join (fun (v2467 : Int) => some (v2466, v2467)) fun (j2468 : Int → Option (Int × Int)) =>
  Let (!fixedRotation2) fun (x2469 : Bool) =>
  Let (decide (h0.Inertia ≥ (1 : Int))) fun (x2470 : Bool) =>
  Let (bif x2469 then x2470 else false) fun (x2471 : Bool) =>
  if x2471 = true then Rx.Bind (caromref01_Div (65536 : Int) h0.Inertia) fun (r2472 : Int) => j2468 r2472
  else j2468 (0 : Int))
  fun (j2473 : Int → Option (Int × Int)) =>
  Let (decide (h0.Mass ≥ (1 : Int))) fun (x2474 : Bool) =>
  if x2474 = true then Rx.Bind (caromref01_Div (65536 : Int) h0.Mass) fun (r2475 : Int) => j2473 r2475
  else j2473 (65536 : Int)

noncomputable def caromref23_SolverBody (b0 : Body) : Option SolverBody :=
  Rx.Bind (caromref23_MassData b0) fun (r2476 : MassData) =>
  Rx.Bind (caromref13_Inverse r2476 b0.Kind b0.FixedRotation) fun (r2477 : Int × Int) =>
  some
  { Velocity := b0.Velocity, AngularVelocity := b0.AngularVelocity, InvMass := r2477.fst, InvInertia := r2477.snd : SolverBody }

noncomputable def caromref03_Scale (v0 : Vec) (k1 : Int) : Option Vec :=
  Rx.Bind (caromref01_Mul v0.X k1) fun (r2478 : Int) =>
  Rx.Bind (caromref01_Mul v0.Y k1) fun (r2479 : Int) => some { X := r2478, Y := r2479 : Vec }

noncomputable def caromref01_Clamp (x0 : Int) (low1 : Int) (high2 : Int) : Option Int :=
  Let (decide (low1 > high2)) fun (x2480 : Bool) =>
  Let (decide (x0 < low1)) fun (x2481 : Bool) =>
  Let (bif x2480 then true else x2481) fun (x2482 : Bool) =>
  if x2482 = true then some low1
  else Let (decide (x0 > high2)) fun (x2483 : Bool) => if x2483 = true then some high2 else some x0

noncomputable def caromref23_ClampVelocity (b0 : Body) : Option Body :=
  Rx.Bind (caromref01_Clamp b0.Velocity.X (-16777216 : Int) (16777216 : Int)) fun (r2484 : Int) =>
  Rx.Bind (caromref01_Clamp b0.Velocity.Y (-16777216 : Int) (16777216 : Int)) fun (r2485 : Int) =>
  Rx.Bind (caromref01_Clamp b0.AngularVelocity (-4194304 : Int) (4194304 : Int)) fun (r2486 : Int) =>
  some
  { ID := b0.ID, Kind := b0.Kind, Transform := b0.Transform, Velocity := { X := r2484, Y := r2485 : Vec }, AngularVelocity := r2486, Force := b0.Force, Torque := b0.Torque, LinearDamping := b0.LinearDamping, AngularDamping := b0.AngularDamping, GravityScale := b0.GravityScale, Bullet := b0.Bullet, FixedRotation := b0.FixedRotation, NoSleep := b0.NoSleep, Asleep := b0.Asleep, IdleSteps := b0.IdleSteps, Fixtures := b0.Fixtures : Body }

noncomputable def caromref23_wake (b0 : Body) : Option Body :=
  some
  { ID := b0.ID, Kind := b0.Kind, Transform := b0.Transform, Velocity := b0.Velocity, AngularVelocity := b0.AngularVelocity, Force := b0.Force, Torque := b0.Torque, LinearDamping := b0.LinearDamping, AngularDamping := b0.AngularDamping, GravityScale := b0.GravityScale, Bullet := b0.Bullet, FixedRotation := b0.FixedRotation, NoSleep := b0.NoSleep, Asleep := false, IdleSteps := (0 : Int), Fixtures := b0.Fixtures : Body }

noncomputable def caromref23_ApplyImpulse (b0 : Body) (point1 : Vec) (impulse2 : Vec) : Option Body :=
  Let (b0.Kind != (3 : Int)) fun (x2487 : Bool) =>
  if x2487 = true then some b0
  else
  Rx.Bind (caromref23_SolverBody b0) fun (r2488 : SolverBody) =>
  Rx.Bind (caromref23_WorldCenter b0) fun (r2489 : Vec) =>
  Rx.Bind (caromref03_Sub point1 r2489) fun (r2490 : Vec) =>
  Rx.Bind (caromref03_Cross r2490 impulse2) fun (r2491 : Int) =>
  Rx.Bind (caromref01_Mul r2491 r2488.InvInertia) fun (r2492 : Int) =>
  Rx.Bind (caromref03_Scale impulse2 r2488.InvMass) fun (r2493 : Vec) =>
  Rx.Bind (caromref03_Add b0.Velocity r2493) fun (r2494 : Vec) =>
  Rx.Bind (caromref01_Add b0.AngularVelocity r2492) fun (r2495 : Int) =>
  Rx.Bind
  (caromref23_ClampVelocity
  { ID := b0.ID, Kind := b0.Kind, Transform := b0.Transform, Velocity := r2494, AngularVelocity := r2495, Force := b0.Force, Torque := b0.Torque, LinearDamping := b0.LinearDamping, AngularDamping := b0.AngularDamping, GravityScale := b0.GravityScale, Bullet := b0.Bullet, FixedRotation := b0.FixedRotation, NoSleep := b0.NoSleep, Asleep := b0.Asleep, IdleSteps := b0.IdleSteps, Fixtures := b0.Fixtures : Body })
  fun (r2496 : Body) => Rx.Bind (caromref23_wake r2496) fun (r2497 : Body) => some r2497

noncomputable def caromref23_ApplyAngularImpulse (b0 : Body) (impulse1 : Int) : Option Body :=
  Let (b0.Kind != (3 : Int)) fun (x2498 : Bool) =>
  if x2498 = true then some b0
  else
  Rx.Bind (caromref23_SolverBody b0) fun (r2499 : SolverBody) =>
  Rx.Bind (caromref01_Mul impulse1 r2499.InvInertia) fun (r2500 : Int) =>
  Rx.Bind (caromref01_Add b0.AngularVelocity r2500) fun (r2501 : Int) =>
  Rx.Bind
  (caromref23_ClampVelocity
  { ID := b0.ID, Kind := b0.Kind, Transform := b0.Transform, Velocity := b0.Velocity, AngularVelocity := r2501, Force := b0.Force, Torque := b0.Torque, LinearDamping := b0.LinearDamping, AngularDamping := b0.AngularDamping, GravityScale := b0.GravityScale, Bullet := b0.Bullet, FixedRotation := b0.FixedRotation, NoSleep := b0.NoSleep, Asleep := b0.Asleep, IdleSteps := b0.IdleSteps, Fixtures := b0.Fixtures : Body })
  fun (r2502 : Body) => Rx.Bind (caromref23_wake r2502) fun (r2503 : Body) => some r2503

noncomputable def caromref43_body (w0 : World_) (x1 : Input) : Option (World_ × Int) :=
  Rx.Bind (caromref25_FindBody w0 x1.ID) fun (r2504 : Int) =>
  Let (decide (r2504 < (0 : Int))) fun (x2505 : Bool) =>
  if x2505 = true then
  some
  ({ Settings := { TimeStep := (0 : Int), Gravity := { X := (0 : Int), Y := (0 : Int) : Vec }, Iterations := (0 : Int), SleepSteps := (0 : Int) : Settings }, Bodies := [], Joints := [], Contacts := [], Overlaps := [], NextID := (0 : Int), Frame := (0 : Int) : World_ },
  (8 : Int))
  else
  Chk ((0 : Int) ≤ r2504 ∧ r2504 < (↑w0.Bodies.length : Int))
  (Let (ix w0.Bodies r2504) fun (x2506 : Body) =>
  Rx.Bind (caromref23_Clone x2506) fun (r2507 : Body) =>
  Let (x1.Kind == (5 : Int)) fun (x2508 : Bool) =>
  Let (r2507.Kind == (1 : Int)) fun (x2509 : Bool) =>
  Let (bif x2508 then x2509 else false) fun (x2510 : Bool) =>
  Let (x1.Kind != (5 : Int)) fun (x2511 : Bool) =>
  Let (x1.Kind != (4 : Int)) fun (x2512 : Bool) =>
  Let (bif x2511 then x2512 else false) fun (x2513 : Bool) =>
  Let (r2507.Kind != (3 : Int)) fun (x2514 : Bool) =>
  Let (bif x2513 then x2514 else false) fun (x2515 : Bool) =>
  Let (bif x2510 then true else x2515) fun (x2516 : Bool) =>
  if x2516 = true then
  some
  ({ Settings := { TimeStep := (0 : Int), Gravity := { X := (0 : Int), Y := (0 : Int) : Vec }, Iterations := (0 : Int), SleepSteps := (0 : Int) : Settings }, Bodies := [], Joints := [], Contacts := [], Overlaps := [], NextID := (0 : Int), Frame := (0 : Int) : World_ },
  (10 : Int))
  else
  Join
  (fun (v2517 : World_ × Body) =>
  Rx.Bind (caromref25_Clone w0) fun (r2518 : World_) =>
  Chk ((0 : Int) ≤ r2504 ∧ r2504 < (↑r2518.Bodies.length : Int))
  (Chk ((0 : Int) ≤ r2504 ∧ r2504 < (↑r2518.Bodies.length : Int))
  (Let (r2518.Bodies.set r2504.toNat v2517.snd) fun (x2519 : List Body) =>
  Rx.Bind
  (caromref25_WakeBody
  { Settings := r2518.Settings, Bodies := x2519, Joints := r2518.Joints, Contacts := r2518.Contacts, Overlaps := r2518.Overlaps, NextID := r2518.NextID, Frame := r2518.Frame : World_ }
  x1.ID)
  fun (r2520 : World_) => some (r2520, (0 : Int)))))
  fun (j2521 : World_ × Body → Option (World_ × Int)) =>
  Let (x1.Kind == (1 : Int)) fun (x2522 : Bool) =>
  if x2522 = true then
  Rx.Bind (caromref23_WorldCenter r2507) fun (r2523 : Vec) =>
  Rx.Bind (caromref23_ApplyImpulse r2507 r2523 x1.Vec) fun (r2524 : Body) =>
  j2521
  ({ Settings := { TimeStep := (0 : Int), Gravity := { X := (0 : Int), Y := (0 : Int) : Vec }, Iterations := (0 : Int), SleepSteps := (0 : Int) : Settings }, Bodies := [], Joints := [], Contacts := [], Overlaps := [], NextID := (0 : Int), Frame := (0 : Int) : World_ },
  r2524)
  else
  Let (x1.Kind == (2 : Int)) fun (x2525 : Bool) =>
  if x2525 = true then
  Rx.Bind (caromref03_Add r2507.Force x1.Vec) fun (r2526 : Vec) =>
  j2521
  ({ Settings := { TimeStep := (0 : Int), Gravity := { X := (0 : Int), Y := (0 : Int) : Vec }, Iterations := (0 : Int), SleepSteps := (0 : Int) : Settings }, Bodies := [], Joints := [], Contacts := [], Overlaps := [], NextID := (0 : Int), Frame := (0 : Int) : World_ },
  { ID := r2507.ID, Kind := r2507.Kind, Transform := r2507.Transform, Velocity := r2507.Velocity, AngularVelocity := r2507.AngularVelocity, Force := r2526, Torque := r2507.Torque, LinearDamping := r2507.LinearDamping, AngularDamping := r2507.AngularDamping, GravityScale := r2507.GravityScale, Bullet := r2507.Bullet, FixedRotation := r2507.FixedRotation, NoSleep := r2507.NoSleep, Asleep := r2507.Asleep, IdleSteps := r2507.IdleSteps, Fixtures := r2507.Fixtures : Body })
  else
  Let (x1.Kind == (3 : Int)) fun (x2527 : Bool) =>
  if x2527 = true then
  Rx.Bind (caromref23_ApplyAngularImpulse r2507 x1.Value) fun (r2528 : Body) =>
  j2521
  ({ Settings := { TimeStep := (0 : Int), Gravity := { X := (0 : Int), Y := (0 : Int) : Vec }, Iterations := (0 : Int), SleepSteps := (0 : Int) : Settings }, Bodies := [], Joints := [], Contacts := [], Overlaps := [], NextID := (0 : Int), Frame := (0 : Int) : World_ },
  r2528)
  else
  Let (x1.Kind == (4 : Int)) fun (x2529 : Bool) =>
  if x2529 = true then
  Rx.Bind (caromref04_Valid { Position := x1.Vec, Angle := x1.Value : Transform }) fun (r2530 : Bool) =>
  Let (!r2530) fun (x2531 : Bool) =>
  if x2531 = true then
  some
  ({ Settings := { TimeStep := (0 : Int), Gravity := { X := (0 : Int), Y := (0 : Int) : Vec }, Iterations := (0 : Int), SleepSteps := (0 : Int) : Settings }, Bodies := [], Joints := [], Contacts := [], Overlaps := [], NextID := (0 : Int), Frame := (0 : Int) : World_ },
  (6 : Int))
  else
  j2521
  ({ Settings := { TimeStep := (0 : Int), Gravity := { X := (0 : Int), Y := (0 : Int) : Vec }, Iterations := (0 : Int), SleepSteps := (0 : Int) : Settings }, Bodies := [], Joints := [], Contacts := [], Overlaps := [], NextID := (0 : Int), Frame := (0 : Int) : World_ },
  { ID := r2507.ID, Kind := r2507.Kind, Transform := { Position := x1.Vec, Angle := x1.Value : Transform }, Velocity := r2507.Velocity, AngularVelocity := r2507.AngularVelocity, Force := r2507.Force, Torque := r2507.Torque, LinearDamping := r2507.LinearDamping, AngularDamping := r2507.AngularDamping, GravityScale := r2507.GravityScale, Bullet := r2507.Bullet, FixedRotation := r2507.FixedRotation, NoSleep := r2507.NoSleep, Asleep := r2507.Asleep, IdleSteps := r2507.IdleSteps, Fixtures := r2507.Fixtures : Body })
  else
  Let (x1.Kind == (5 : Int)) fun (x2532 : Bool) =>
  if x2532 = true then
  Rx.Bind
  (caromref23_ClampVelocity
  { ID := r2507.ID, Kind := r2507.Kind, Transform := r2507.Transform, Velocity := x1.Vec, AngularVelocity := x1.Value, Force := r2507.Force, Torque := r2507.Torque, LinearDamping := r2507.LinearDamping, AngularDamping := r2507.AngularDamping, GravityScale := r2507.GravityScale, Bullet := r2507.Bullet, FixedRotation := r2507.FixedRotation, NoSleep := r2507.NoSleep, Asleep := r2507.Asleep, IdleSteps := r2507.IdleSteps, Fixtures := r2507.Fixtures : Body })
  fun (r2533 : Body) =>
  j2521
  ({ Settings := { TimeStep := (0 : Int), Gravity := { X := (0 : Int), Y := (0 : Int) : Vec }, Iterations := (0 : Int), SleepSteps := (0 : Int) : Settings }, Bodies := [], Joints := [], Contacts := [], Overlaps := [], NextID := (0 : Int), Frame := (0 : Int) : World_ },
  r2533)
  else
  j2521
  ({ Settings := { TimeStep := (0 : Int), Gravity := { X := (0 : Int), Y := (0 : Int) : Vec }, Iterations := (0 : Int), SleepSteps := (0 : Int) : Settings }, Bodies := [], Joints := [], Contacts := [], Overlaps := [], NextID := (0 : Int), Frame := (0 : Int) : World_ },
  r2507))

noncomputable def caromref43_Apply (w0 : World_) (x1 : Input) : Option (World_ × Int × Int) :=
  Rx.Bind (caromref25_Validate w0) fun (r2534 : Int) =>
  Let (r2534 != (0 : Int)) fun (x2535 : Bool) =>
  if x2535 = true then
  some
  ({ Settings := { TimeStep := (0 : Int), Gravity := { X := (0 : Int), Y := (0 : Int) : Vec }, Iterations := (0 : Int), SleepSteps := (0 : Int) : Settings }, Bodies := [], Joints := [], Contacts := [], Overlaps := [], NextID := (0 : Int), Frame := (0 : Int) : World_ },
  (0 : Int), (18 : Int))
  else
  Rx.Bind (caromref43_Validate x1) fun (r2536 : Int) =>
  Let (r2536 != (0 : Int)) fun (x2537 : Bool) =>
  if x2537 = true then
  some
  ({ Settings := { TimeStep := (0 : Int), Gravity := { X := (0 : Int), Y := (0 : Int) : Vec }, Iterations := (0 : Int), SleepSteps := (0 : Int) : Settings }, Bodies := [], Joints := [], Contacts := [], Overlaps := [], NextID := (0 : Int), Frame := (0 : Int) : World_ },
  (0 : Int), r2536)
  else
  Join (fun (v2538 : Int × World_ × World_) => some (v2538.snd.snd, (0 : Int), v2538.fst))
  fun (j2539 : Int × World_ × World_ → Option (World_ × Int × Int)) =>
  Let (x1.Kind == (9 : Int)) fun (x2540 : Bool) =>
  if x2540 = true then Rx.Bind (caromref25_AddBody w0 x1.Body) fun (r2541 : World_ × Int × Int) => some r2541
  else
  Let (x1.Kind == (11 : Int)) fun (x2542 : Bool) =>
  if x2542 = true then Rx.Bind (caromref25_AddJoint w0 x1.Joint) fun (r2543 : World_ × Int × Int) => some r2543
  else
  Let (x1.Kind == (10 : Int)) fun (x2544 : Bool) =>
  if x2544 = true then
  Rx.Bind (caromref25_RemoveBody w0 x1.ID) fun (r2545 : World_ × Int) =>
  j2539
  (r2545.snd,
  { Settings := { TimeStep := (0 : Int), Gravity := { X := (0 : Int), Y := (0 : Int) : Vec }, Iterations := (0 : Int), SleepSteps := (0 : Int) : Settings }, Bodies := [], Joints := [], Contacts := [], Overlaps := [], NextID := (0 : Int), Frame := (0 : Int) : World_ },
  r2545.fst)
  else
  Let (x1.Kind == (12 : Int)) fun (x2546 : Bool) =>
  if x2546 = true then
  Rx.Bind (caromref25_RemoveJoint w0 x1.ID) fun (r2547 : World_ × Int) =>
  j2539
  (r2547.snd,
  { Settings := { TimeStep := (0 : Int), Gravity := { X := (0 : Int), Y := (0 : Int) : Vec }, Iterations := (0 : Int), SleepSteps := (0 : Int) : Settings }, Bodies := [], Joints := [], Contacts := [], Overlaps := [], NextID := (0 : Int), Frame := (0 : Int) : World_ },
  r2547.fst)
  else
  Join
  (fun (v2548 : Bool) =>
  if v2548 = true then
  Rx.Bind (caromref43_joint w0 x1) fun (r2549 : World_ × Int) =>
  j2539
  (r2549.snd,
  { Settings := { TimeStep := (0 : Int), Gravity := { X := (0 : Int), Y := (0 : Int) : Vec }, Iterations := (0 : Int), SleepSteps := (0 : Int) : Settings }, Bodies := [], Joints := [], Contacts := [], Overlaps := [], NextID := (0 : Int), Frame := (0 : Int) : World_ },
  r2549.fst)
  else
  Rx.Bind (caromref43_body w0 x1) fun (r2550 : World_ × Int) =>
  j2539
  (r2550.snd,
  { Settings := { TimeStep := (0 : Int), Gravity := { X := (0 : Int), Y := (0 : Int) : Vec }, Iterations := (0 : Int), SleepSteps := (0 : Int) : Settings }, Bodies := [], Joints := [], Contacts := [], Overlaps := [], NextID := (0 : Int), Frame := (0 : Int) : World_ },
  r2550.fst))
  fun (j2551 : Bool → Option (World_ × Int × Int)) =>
  Let (x1.Kind == (7 : Int)) fun (x2552 : Bool) =>
  if x2552 = true then j2551 x2552 else Let (x1.Kind == (8 : Int)) fun (x2553 : Bool) => j2551 x2553

noncomputable def caromref22_Keys (a0 : (List PairKey)) (b1 : (List PairKey)) : Option Bool :=
  Let (↑a0.length : Int) fun (x2554 : Int) =>
  Let (↑b1.length : Int) fun (x2555 : Int) =>
  Let (x2554 != x2555) fun (x2556 : Bool) =>
  if x2556 = true then some false
  else
  LOOP
  (fun (rec2557 : Int → Option Bool) (s2558 : Int) =>
  Let (↑a0.length : Int) fun (x2559 : Int) =>
  Let (decide (s2558 < x2559)) fun (x2560 : Bool) =>
  if x2560 = true then
  Chk ((0 : Int) ≤ s2558 ∧ s2558 < (↑a0.length : Int))
  (Let (ix a0 s2558) fun (x2561 : PairKey) =>
  Chk ((0 : Int) ≤ s2558 ∧ s2558 < (↑b1.length : Int))
  (Let (ix b1 s2558) fun (x2562 : PairKey) =>
  Let
  (!(decide (x2561.BodyA = x2562.BodyA) &&
  (decide (x2561.FixtureA = x2562.FixtureA) &&
  (decide (x2561.BodyB = x2562.BodyB) && decide (x2561.FixtureB = x2562.FixtureB)))))
  fun (x2563 : Bool) =>
  if x2563 = true then some false else Let (IntKind.i64.wrap (s2558 + (1 : Int))) fun (x2564 : Int) => rec2557 x2564))
  else some true)
  fuel (0 : Int)

noncomputable def caromref16_Equal (a0 : Manifold) (b1 : Manifold) : Option Bool :=
  Let (!(decide (a0.Normal.X = b1.Normal.X) && decide (a0.Normal.Y = b1.Normal.Y))) fun (x2565 : Bool) =>
  Let (↑a0.Points.length : Int) fun (x2566 : Int) =>
  Let (↑b1.Points.length : Int) fun (x2567 : Int) =>
  Let (x2566 != x2567) fun (x2568 : Bool) =>
  Let (bif x2565 then true else x2568) fun (x2569 : Bool) =>
  if x2569 = true then some false
  else
  LOOP
  (fun (rec2570 : Int → Option Bool) (s2571 : Int) =>
  Let (↑a0.Points.length : Int) fun (x2572 : Int) =>
  Let (decide (s2571 < x2572)) fun (x2573 : Bool) =>
  if x2573 = true then
  Chk ((0 : Int) ≤ s2571 ∧ s2571 < (↑a0.Points.length : Int))
  (Let (ix a0.Points s2571) fun (x2574 : ContactPoint) =>
  Chk ((0 : Int) ≤ s2571 ∧ s2571 < (↑b1.Points.length : Int))
  (Let (ix b1.Points s2571) fun (x2575 : ContactPoint) =>
  Let
  (!(decide (x2574.Point.X = x2575.Point.X) && decide (x2574.Point.Y = x2575.Point.Y) &&
  (decide (x2574.Separation = x2575.Separation) &&
  (decide (x2574.ID = x2575.ID) &&
  (decide (x2574.NormalImpulse = x2575.NormalImpulse) && decide (x2574.TangentImpulse = x2575.TangentImpulse))))))
  fun (x2576 : Bool) =>
  if x2576 = true then some false else Let (IntKind.i64.wrap (s2571 + (1 : Int))) fun (x2577 : Int) => rec2570 x2577))
  else some true)
  fuel (0 : Int)

noncomputable def caromref25_Equal (a0 : World_) (b1 : World_) : Option Bool :=
  Let
  (!(decide (a0.Settings.TimeStep = b1.Settings.TimeStep) &&
  (decide (a0.Settings.Gravity.X = b1.Settings.Gravity.X) && decide (a0.Settings.Gravity.Y = b1.Settings.Gravity.Y) &&
  (decide (a0.Settings.Iterations = b1.Settings.Iterations) &&
  decide (a0.Settings.SleepSteps = b1.Settings.SleepSteps)))))
  fun (x2578 : Bool) =>
  Let (a0.NextID != b1.NextID) fun (x2579 : Bool) =>
  Let (bif x2578 then true else x2579) fun (x2580 : Bool) =>
  Let (a0.Frame != b1.Frame) fun (x2581 : Bool) =>
  Let (bif x2580 then true else x2581) fun (x2582 : Bool) =>
  Let (↑a0.Bodies.length : Int) fun (x2583 : Int) =>
  Let (↑b1.Bodies.length : Int) fun (x2584 : Int) =>
  Let (x2583 != x2584) fun (x2585 : Bool) =>
  Let (bif x2582 then true else x2585) fun (x2586 : Bool) =>
  Let (↑a0.Joints.length : Int) fun (x2587 : Int) =>
  Let (↑b1.Joints.length : Int) fun (x2588 : Int) =>
  Let (x2587 != x2588) fun (x2589 : Bool) =>
  Let (bif x2586 then true else x2589) fun (x2590 : Bool) =>
  Let (↑a0.Contacts.length : Int) fun (x2591 : Int) =>
  Let (↑b1.Contacts.length : Int) fun (x2592 : Int) =>
  Let (x2591 != x2592) fun (x2593 : Bool) =>
  Let (bif x2590 then true else x2593) fun (x2594 : Bool) =>
  Rx.Bind (if (x2594 == false) = true then caromref22_Keys a0.Overlaps b1.Overlaps else some default)
  fun (r2595 : Bool) =>
  Let (!r2595) fun (x2596 : Bool) =>
  Let (bif x2594 then true else x2596) fun (x2597 : Bool) =>
  if x2597 = true then some false
  else
  LOOP
  (fun (rec2598 : Int → Option Bool) (s2599 : Int) =>
  Let (↑a0.Bodies.length : Int) fun (x2600 : Int) =>
  Let (decide (s2599 < x2600)) fun (x2601 : Bool) =>
  if x2601 = true then
  Chk ((0 : Int) ≤ s2599 ∧ s2599 < (↑a0.Bodies.length : Int))
  (Let (ix a0.Bodies s2599) fun (x2602 : Body) =>
  Chk ((0 : Int) ≤ s2599 ∧ s2599 < (↑b1.Bodies.length : Int))
  (Let (ix b1.Bodies s2599) fun (x2603 : Body) =>
  Rx.Bind (caromref23_Equal x2602 x2603) fun (r2604 : Bool) =>
  Let (!r2604) fun (x2605 : Bool) =>
  if x2605 = true then some false else Let (IntKind.i64.wrap (s2599 + (1 : Int))) fun (x2606 : Int) => rec2598 x2606))
  else
  LOOP
  (fun (rec2607 : Int → Option Bool) (s2608 : Int) =>
  Let (↑a0.Joints.length : Int) fun (x2609 : Int) =>
  Let (decide (s2608 < x2609)) fun (x2610 : Bool) =>
  if x2610 = true then
  Chk ((0 : Int) ≤ s2608 ∧ s2608 < (↑a0.Joints.length : Int))
  (Let (ix a0.Joints s2608) fun (x2611 : Joint) =>
  Chk ((0 : Int) ≤ s2608 ∧ s2608 < (↑b1.Joints.length : Int))
  (Let (ix b1.Joints s2608) fun (x2612 : Joint) =>
  Let
  (!(decide (x2611.ID = x2612.ID) &&
  (decide (x2611.Kind = x2612.Kind) &&
  (decide (x2611.BodyA = x2612.BodyA) &&
  (decide (x2611.BodyB = x2612.BodyB) &&
  (decide (x2611.AnchorA.X = x2612.AnchorA.X) && decide (x2611.AnchorA.Y = x2612.AnchorA.Y) &&
  (decide (x2611.AnchorB.X = x2612.AnchorB.X) && decide (x2611.AnchorB.Y = x2612.AnchorB.Y) &&
  (decide (x2611.Axis.X = x2612.Axis.X) && decide (x2611.Axis.Y = x2612.Axis.Y) &&
  (decide (x2611.ReferenceAngle = x2612.ReferenceAngle) &&
  (decide (x2611.EnableLimit = x2612.EnableLimit) &&
  (decide (x2611.Lower = x2612.Lower) &&
  (decide (x2611.Upper = x2612.Upper) &&
  (decide (x2611.EnableMotor = x2612.EnableMotor) &&
  (decide (x2611.MotorSpeed = x2612.MotorSpeed) &&
  (decide (x2611.MaxForce = x2612.MaxForce) &&
  (decide (x2611.Softness = x2612.Softness) &&
  (decide (x2611.BreakForce = x2612.BreakForce) &&
  (decide (x2611.CollideConnected = x2612.CollideConnected) &&
  (decide (x2611.Impulses.fst = x2612.Impulses.fst) &&
  (decide (x2611.Impulses.snd.fst = x2612.Impulses.snd.fst) &&
  (decide (x2611.Impulses.snd.snd.fst = x2612.Impulses.snd.snd.fst) &&
  decide (x2611.Impulses.snd.snd.snd = x2612.Impulses.snd.snd.snd))))))))))))))))))))))
  fun (x2613 : Bool) =>
  if x2613 = true then some false else Let (IntKind.i64.wrap (s2608 + (1 : Int))) fun (x2614 : Int) => rec2607 x2614))
  else
  LOOP
  (fun (rec2615 : Int → Option Bool) (s2616 : Int) =>
  Let (↑a0.Contacts.length : Int) fun (x2617 : Int) =>
  Let (decide (s2616 < x2617)) fun (x2618 : Bool) =>
  if x2618 = true then
  Chk ((0 : Int) ≤ s2616 ∧ s2616 < (↑a0.Contacts.length : Int))
  (Let (ix a0.Contacts s2616) fun (x2619 : Contact) =>
  Chk ((0 : Int) ≤ s2616 ∧ s2616 < (↑b1.Contacts.length : Int))
  (Let (ix b1.Contacts s2616) fun (x2620 : Contact) =>
  Let
  (!(decide (x2619.Key.BodyA = x2620.Key.BodyA) &&
  (decide (x2619.Key.FixtureA = x2620.Key.FixtureA) &&
  (decide (x2619.Key.BodyB = x2620.Key.BodyB) && decide (x2619.Key.FixtureB = x2620.Key.FixtureB)))))
  fun (x2621 : Bool) =>
  Chk ((x2621 == false) = true → (0 : Int) ≤ s2616 ∧ s2616 < (↑a0.Contacts.length : Int))
  (Let (ix a0.Contacts s2616) fun (x2622 : Contact) =>
  Chk ((x2621 == false) = true → (0 : Int) ≤ s2616 ∧ s2616 < (↑b1.Contacts.length : Int))
  (Let (ix b1.Contacts s2616) fun (x2623 : Contact) =>
  Rx.Bind (if (x2621 == false) = true then caromref16_Equal x2622.Manifold x2623.Manifold else some default)
  fun (r2624 : Bool) =>
  Let (!r2624) fun (x2625 : Bool) =>
  Let (bif x2621 then true else x2625) fun (x2626 : Bool) =>
  if x2626 = true then some false else Let (IntKind.i64.wrap (s2616 + (1 : Int))) fun (x2627 : Int) => rec2615 x2627))))
  else some true)
  fuel (0 : Int))
  fuel (0 : Int))
  fuel (0 : Int)

noncomputable def caromlaw43_InputApply (w0 : World_) (x1 : Input) : Option Bool :=
  Rx.Bind (caromref25_Few w0) fun (r2628 : Bool) =>
  Let (!r2628) fun (x2629 : Bool) =>
  Rx.Bind (if (x2629 == false) = true then caromlaw43_few [x1] else some default) fun (r2630 : Bool) =>
  Let (!r2630) fun (x2631 : Bool) =>
  Let (bif x2629 then true else x2631) fun (x2632 : Bool) =>
  if x2632 = true then Rx.Bind caromlaw43_example fun (r2633 : Bool) => some r2633
  else
  Rx.Bind (input_Apply w0 x1) fun (r2634 : World_ × Int × Int) =>
  Rx.Bind (caromref43_Apply w0 x1) fun (r2635 : World_ × Int × Int) =>
  Rx.Bind (caromref25_Equal r2634.fst r2635.fst) fun (r2636 : Bool) =>
  Let (r2634.snd.fst == r2635.snd.fst) fun (x2637 : Bool) =>
  Let (bif r2636 then x2637 else false) fun (x2638 : Bool) =>
  Let (r2634.snd.snd == r2635.snd.snd) fun (x2639 : Bool) =>
  Let (bif x2638 then x2639 else false) fun (x2640 : Bool) =>
  Rx.Bind (if (x2640 == true) = true then caromlaw43_example else some default) fun (r2641 : Bool) =>
  Let (bif x2640 then r2641 else false) fun (x2642 : Bool) => some x2642

noncomputable def caromref43_Clone (x0 : Input) : Option Input :=
  Rx.Bind (caromref23_Clone x0.Body) fun (r2643 : Body) =>
  some { Kind := x0.Kind, ID := x0.ID, Vec := x0.Vec, Value := x0.Value, Body := r2643, Joint := x0.Joint : Input }

noncomputable def input_Clone (x0 : Input) : Option Input :=
  Rx.Bind (body_Clone x0.Body) fun (r2644 : Body) =>
  some { Kind := x0.Kind, ID := x0.ID, Vec := x0.Vec, Value := x0.Value, Body := r2644, Joint := x0.Joint : Input }

noncomputable def input_Equal (a0 : Input) (b1 : Input) : Option Bool :=
  Let (a0.Kind == b1.Kind) fun (x2645 : Bool) =>
  Let (a0.ID == b1.ID) fun (x2646 : Bool) =>
  Let (bif x2645 then x2646 else false) fun (x2647 : Bool) =>
  Let (decide (a0.Vec.X = b1.Vec.X) && decide (a0.Vec.Y = b1.Vec.Y)) fun (x2648 : Bool) =>
  Let (bif x2647 then x2648 else false) fun (x2649 : Bool) =>
  Let (a0.Value == b1.Value) fun (x2650 : Bool) =>
  Let (bif x2649 then x2650 else false) fun (x2651 : Bool) =>
  Rx.Bind (if (x2651 == true) = true then body_Equal a0.Body b1.Body else some default) fun (r2652 : Bool) =>
  Let (bif x2651 then r2652 else false) fun (x2653 : Bool) =>
  Let
  (decide (a0.Joint.ID = b1.Joint.ID) &&
  (decide (a0.Joint.Kind = b1.Joint.Kind) &&
  (decide (a0.Joint.BodyA = b1.Joint.BodyA) &&
  (decide (a0.Joint.BodyB = b1.Joint.BodyB) &&
  (decide (a0.Joint.AnchorA.X = b1.Joint.AnchorA.X) && decide (a0.Joint.AnchorA.Y = b1.Joint.AnchorA.Y) &&
  (decide (a0.Joint.AnchorB.X = b1.Joint.AnchorB.X) && decide (a0.Joint.AnchorB.Y = b1.Joint.AnchorB.Y) &&
  (decide (a0.Joint.Axis.X = b1.Joint.Axis.X) && decide (a0.Joint.Axis.Y = b1.Joint.Axis.Y) &&
  (decide (a0.Joint.ReferenceAngle = b1.Joint.ReferenceAngle) &&
  (decide (a0.Joint.EnableLimit = b1.Joint.EnableLimit) &&
  (decide (a0.Joint.Lower = b1.Joint.Lower) &&
  (decide (a0.Joint.Upper = b1.Joint.Upper) &&
  (decide (a0.Joint.EnableMotor = b1.Joint.EnableMotor) &&
  (decide (a0.Joint.MotorSpeed = b1.Joint.MotorSpeed) &&
  (decide (a0.Joint.MaxForce = b1.Joint.MaxForce) &&
  (decide (a0.Joint.Softness = b1.Joint.Softness) &&
  (decide (a0.Joint.BreakForce = b1.Joint.BreakForce) &&
  (decide (a0.Joint.CollideConnected = b1.Joint.CollideConnected) &&
  (decide (a0.Joint.Impulses.fst = b1.Joint.Impulses.fst) &&
  (decide (a0.Joint.Impulses.snd.fst = b1.Joint.Impulses.snd.fst) &&
  (decide (a0.Joint.Impulses.snd.snd.fst = b1.Joint.Impulses.snd.snd.fst) &&
  decide (a0.Joint.Impulses.snd.snd.snd = b1.Joint.Impulses.snd.snd.snd)))))))))))))))))))))
  fun (x2654 : Bool) => Let (bif x2653 then x2654 else false) fun (x2655 : Bool) => some x2655

noncomputable def caromref43_Equal (a0 : Input) (b1 : Input) : Option Bool :=
  Let (a0.Kind == b1.Kind) fun (x2656 : Bool) =>
  Let (a0.ID == b1.ID) fun (x2657 : Bool) =>
  Let (bif x2656 then x2657 else false) fun (x2658 : Bool) =>
  Let (decide (a0.Vec.X = b1.Vec.X) && decide (a0.Vec.Y = b1.Vec.Y)) fun (x2659 : Bool) =>
  Let (bif x2658 then x2659 else false) fun (x2660 : Bool) =>
  Let (a0.Value == b1.Value) fun (x2661 : Bool) =>
  Let (bif x2660 then x2661 else false) fun (x2662 : Bool) =>
  Let
  (decide (a0.Joint.ID = b1.Joint.ID) &&
  (decide (a0.Joint.Kind = b1.Joint.Kind) &&
  (decide (a0.Joint.BodyA = b1.Joint.BodyA) &&
  (decide (a0.Joint.BodyB = b1.Joint.BodyB) &&
  (decide (a0.Joint.AnchorA.X = b1.Joint.AnchorA.X) && decide (a0.Joint.AnchorA.Y = b1.Joint.AnchorA.Y) &&
  (decide (a0.Joint.AnchorB.X = b1.Joint.AnchorB.X) && decide (a0.Joint.AnchorB.Y = b1.Joint.AnchorB.Y) &&
  (decide (a0.Joint.Axis.X = b1.Joint.Axis.X) && decide (a0.Joint.Axis.Y = b1.Joint.Axis.Y) &&
  (decide (a0.Joint.ReferenceAngle = b1.Joint.ReferenceAngle) &&
  (decide (a0.Joint.EnableLimit = b1.Joint.EnableLimit) &&
  (decide (a0.Joint.Lower = b1.Joint.Lower) &&
  (decide (a0.Joint.Upper = b1.Joint.Upper) &&
  (decide (a0.Joint.EnableMotor = b1.Joint.EnableMotor) &&
  (decide (a0.Joint.MotorSpeed = b1.Joint.MotorSpeed) &&
  (decide (a0.Joint.MaxForce = b1.Joint.MaxForce) &&
  (decide (a0.Joint.Softness = b1.Joint.Softness) &&
  (decide (a0.Joint.BreakForce = b1.Joint.BreakForce) &&
  (decide (a0.Joint.CollideConnected = b1.Joint.CollideConnected) &&
  (decide (a0.Joint.Impulses.fst = b1.Joint.Impulses.fst) &&
  (decide (a0.Joint.Impulses.snd.fst = b1.Joint.Impulses.snd.fst) &&
  (decide (a0.Joint.Impulses.snd.snd.fst = b1.Joint.Impulses.snd.snd.fst) &&
  decide (a0.Joint.Impulses.snd.snd.snd = b1.Joint.Impulses.snd.snd.snd)))))))))))))))))))))
  fun (x2663 : Bool) =>
  Let (bif x2662 then x2663 else false) fun (x2664 : Bool) =>
  Rx.Bind (if (x2664 == true) = true then caromref23_Equal a0.Body b1.Body else some default) fun (r2665 : Bool) =>
  Let (bif x2664 then r2665 else false) fun (x2666 : Bool) => some x2666

noncomputable def caromlaw43_InputCloneEqual (a0 : Input) (b1 : Input) : Option Bool :=
  Rx.Bind (caromlaw43_few [a0, b1]) fun (r2667 : Bool) =>
  Let (!r2667) fun (x2668 : Bool) =>
  if x2668 = true then Rx.Bind caromlaw43_example fun (r2669 : Bool) => some r2669
  else
  Rx.Bind (caromref43_Clone a0) fun (r2670 : Input) =>
  Rx.Bind (input_Clone a0) fun (r2671 : Input) =>
  Rx.Bind (input_Equal a0 b1) fun (r2672 : Bool) =>
  Rx.Bind (caromref43_Equal a0 b1) fun (r2673 : Bool) =>
  Let (r2672 != r2673) fun (x2674 : Bool) =>
  Rx.Bind (if (x2674 == false) = true then input_Equal a0 r2671 else some default) fun (r2675 : Bool) =>
  Let (!r2675) fun (x2676 : Bool) =>
  Let (bif x2674 then true else x2676) fun (x2677 : Bool) =>
  Rx.Bind (if (x2677 == false) = true then caromref43_Equal a0 r2671 else some default) fun (r2678 : Bool) =>
  Let (!r2678) fun (x2679 : Bool) =>
  Let (bif x2677 then true else x2679) fun (x2680 : Bool) => if x2680 = true then some false else none

noncomputable def input_ApplyAll (w0 : World_) (inputs1 : (List Input)) : Option (World_ × (List Int)) :=
  Let (↑inputs1.length : Int) fun (x2681 : Int) =>
  Chk
  ((0 : Int) ≤ (0 : Int) ∧
  (0 : Int) ≤ x2681 ∧ (↑(8 : Nat) : Int) * x2681 ≤ (281474976710656 : Int) ∧ x2681 ≤ (9223372036854775807 : Int))
  (Let (List.replicate (0 : Nat) (0 : Int)) fun (x2682 : List Int) =>
  Rx.Bind (world_Validate w0) fun (r2683 : Int) =>
  Let (r2683 != (0 : Int)) fun (x2684 : Bool) =>
  if x2684 = true then
  Let (↑inputs1.length : Int) fun (x2685 : Int) =>
  LOOP
  (fun (rec2686 : List Int × Int → Option (World_ × List Int)) (s2687 : List Int × Int) =>
  Let (decide (s2687.snd < x2685)) fun (x2688 : Bool) =>
  if x2688 = true then
  Chk ((List.length s2687.fst + (1 : Nat)) * (8 : Nat) ≤ (140737488355328 : Nat))
  (Let (s2687.fst ++ [(18 : Int)]) fun (x2689 : List Int) =>
  Let (IntKind.i64.wrap (s2687.snd + (1 : Int))) fun (x2690 : Int) => rec2686 (x2689, x2690))
  else
  some
  ({ Settings := { TimeStep := (0 : Int), Gravity := { X := (0 : Int), Y := (0 : Int) : Vec }, Iterations := (0 : Int), SleepSteps := (0 : Int) : Settings }, Bodies := [], Joints := [], Contacts := [], Overlaps := [], NextID := (0 : Int), Frame := (0 : Int) : World_ },
  s2687.fst))
  fuel (x2682, (0 : Int))
  else
  Rx.Bind (world_Clone w0) fun (r2691 : World_) =>
  Let (↑inputs1.length : Int) fun (x2692 : Int) =>
  LOOP
  (fun (rec2693 : List Int × Int × World_ → Option (World_ × List Int)) (s2694 : List Int × Int × World_) =>
  Let (decide (s2694.snd.fst < x2692)) fun (x2695 : Bool) =>
  if x2695 = true then
  Chk ((0 : Int) ≤ s2694.snd.fst ∧ s2694.snd.fst < (↑inputs1.length : Int))
  (Let (ix inputs1 s2694.snd.fst) fun (x2696 : Input) =>
  Rx.Bind (input_Apply s2694.snd.snd x2696) fun (r2697 : World_ × Int × Int) =>
  Join
  (fun (v2698 : World_) =>
  Chk ((List.length s2694.fst + [r2697.snd.snd].length) * (8 : Nat) ≤ (140737488355328 : Nat))
  (Let (s2694.fst ++ [r2697.snd.snd]) fun (x2699 : List Int) =>
  Let (IntKind.i64.wrap (s2694.snd.fst + (1 : Int))) fun (x2700 : Int) => rec2693 (x2699, x2700, v2698)))
  fun (j2701 : World_ → Option (World_ × List Int)) =>
  Let (r2697.snd.snd == (0 : Int)) fun (x2702 : Bool) => if x2702 = true then j2701 r2697.fst else j2701 s2694.snd.snd)
  else some (s2694.snd.snd, s2694.fst))
  fuel (x2682, (0 : Int), r2691))

noncomputable def caromref43_ApplyAll (w0 : World_) (l1 : (List Input)) : Option (World_ × (List Int)) :=
  Rx.Bind (caromref25_Validate w0) fun (r2703 : Int) =>
  Let (r2703 != (0 : Int)) fun (x2704 : Bool) =>
  if x2704 = true then
  LOOP
  (fun (rec2705 : List Int × Int → Option (World_ × List Int)) (s2706 : List Int × Int) =>
  Let (↑l1.length : Int) fun (x2707 : Int) =>
  Let (decide (s2706.snd < x2707)) fun (x2708 : Bool) =>
  if x2708 = true then
  Chk ((List.length s2706.fst + (1 : Nat)) * (8 : Nat) ≤ (140737488355328 : Nat))
  (Let (s2706.fst ++ [(18 : Int)]) fun (x2709 : List Int) =>
  Let (IntKind.i64.wrap (s2706.snd + (1 : Int))) fun (x2710 : Int) => rec2705 (x2709, x2710))
  else
  some
  ({ Settings := { TimeStep := (0 : Int), Gravity := { X := (0 : Int), Y := (0 : Int) : Vec }, Iterations := (0 : Int), SleepSteps := (0 : Int) : Settings }, Bodies := [], Joints := [], Contacts := [], Overlaps := [], NextID := (0 : Int), Frame := (0 : Int) : World_ },
  s2706.fst))
  fuel ([], (0 : Int))
  else
  Rx.Bind (caromref25_Clone w0) fun (r2711 : World_) =>
  LOOP
  (fun (rec2712 : List Int × Int × World_ → Option (World_ × List Int)) (s2713 : List Int × Int × World_) =>
  Let (↑l1.length : Int) fun (x2714 : Int) =>
  Let (decide (s2713.snd.fst < x2714)) fun (x2715 : Bool) =>
  if x2715 = true then
  Chk ((0 : Int) ≤ s2713.snd.fst ∧ s2713.snd.fst < (↑l1.length : Int))
  (Let (ix l1 s2713.snd.fst) fun (x2716 : Input) =>
  Rx.Bind (caromref43_Apply s2713.snd.snd x2716) fun (r2717 : World_ × Int × Int) =>
  Join
  (fun (v2718 : World_) =>
  Chk ((List.length s2713.fst + [r2717.snd.snd].length) * (8 : Nat) ≤ (140737488355328 : Nat))
  (Let (s2713.fst ++ [r2717.snd.snd]) fun (x2719 : List Int) =>
  Let (IntKind.i64.wrap (s2713.snd.fst + (1 : Int))) fun (x2720 : Int) => rec2712 (x2719, x2720, v2718)))
  fun (j2721 : World_ → Option (World_ × List Int)) =>
  Let (r2717.snd.snd == (0 : Int)) fun (x2722 : Bool) => if x2722 = true then j2721 r2717.fst else j2721 s2713.snd.snd)
  else some (s2713.snd.snd, s2713.fst))
  fuel ([], (0 : Int), r2711)

noncomputable def caromlaw43_InputApplyAll (w0 : World_) (l1 : (List Input)) : Option Bool :=
  Rx.Bind (caromref25_Few w0) fun (r2723 : Bool) =>
  Let (!r2723) fun (x2724 : Bool) =>
  Rx.Bind (if (x2724 == false) = true then caromlaw43_few l1 else some default) fun (r2725 : Bool) =>
  Let (!r2725) fun (x2726 : Bool) =>
  Let (bif x2724 then true else x2726) fun (x2727 : Bool) =>
  if x2727 = true then Rx.Bind caromlaw43_example fun (r2728 : Bool) => some r2728
  else
  Rx.Bind (input_ApplyAll w0 l1) fun (r2729 : World_ × List Int) =>
  Rx.Bind (caromref43_ApplyAll w0 l1) fun (r2730 : World_ × List Int) =>
  Rx.Bind (caromref25_Equal r2729.fst r2730.fst) fun (r2731 : Bool) =>
  Let (!r2731) fun (x2732 : Bool) =>
  Let (↑(List.length r2729.snd) : Int) fun (x2733 : Int) =>
  Let (↑(List.length r2730.snd) : Int) fun (x2734 : Int) =>
  Let (x2733 != x2734) fun (x2735 : Bool) =>
  Let (bif x2732 then true else x2735) fun (x2736 : Bool) =>
  if x2736 = true then some false
  else
  LOOP
  (fun (rec2737 : Int → Option Bool) (s2738 : Int) =>
  Let (↑(List.length r2729.snd) : Int) fun (x2739 : Int) =>
  Let (decide (s2738 < x2739)) fun (x2740 : Bool) =>
  if x2740 = true then
  Chk ((0 : Int) ≤ s2738 ∧ s2738 < (↑(List.length r2729.snd) : Int))
  (Let (ix r2729.snd s2738) fun (x2741 : Int) =>
  Chk ((0 : Int) ≤ s2738 ∧ s2738 < (↑(List.length r2730.snd) : Int))
  (Let (ix r2730.snd s2738) fun (x2742 : Int) =>
  Let (x2741 != x2742) fun (x2743 : Bool) =>
  if x2743 = true then some false else Let (IntKind.i64.wrap (s2738 + (1 : Int))) fun (x2744 : Int) => rec2737 x2744))
  else Rx.Bind caromlaw43_example fun (r2745 : Bool) => some r2745)
  fuel (0 : Int)

noncomputable def caromlaw43_InputStaysValid (w0 : World_) (l1 : (List Input)) : Option Bool :=
  Rx.Bind (caromref25_Few w0) fun (r2746 : Bool) =>
  Let (!r2746) fun (x2747 : Bool) =>
  Rx.Bind (if (x2747 == false) = true then caromlaw43_few l1 else some default) fun (r2748 : Bool) =>
  Let (!r2748) fun (x2749 : Bool) =>
  Let (bif x2747 then true else x2749) fun (x2750 : Bool) =>
  Rx.Bind (if (x2750 == false) = true then world_Validate w0 else some default) fun (r2751 : Int) =>
  Let (r2751 != (0 : Int)) fun (x2752 : Bool) =>
  Let (bif x2750 then true else x2752) fun (x2753 : Bool) =>
  if x2753 = true then Rx.Bind caromlaw43_example fun (r2754 : Bool) => some r2754
  else
  Rx.Bind (caromref25_Clone w0) fun (r2755 : World_) =>
  Rx.Bind (input_ApplyAll w0 l1) fun (r2756 : World_ × List Int) =>
  Rx.Bind (world_Validate r2756.fst) fun (r2757 : Int) =>
  Let (r2757 != (0 : Int)) fun (x2758 : Bool) =>
  Let (↑(List.length r2756.snd) : Int) fun (x2759 : Int) =>
  Let (↑l1.length : Int) fun (x2760 : Int) =>
  Let (x2759 != x2760) fun (x2761 : Bool) =>
  Let (bif x2758 then true else x2761) fun (x2762 : Bool) =>
  Rx.Bind (if (x2762 == false) = true then caromref25_Equal w0 r2755 else some default) fun (r2763 : Bool) =>
  Let (!r2763) fun (x2764 : Bool) =>
  Let (bif x2762 then true else x2764) fun (x2765 : Bool) =>
  Let (r2756.fst.Frame != w0.Frame) fun (x2766 : Bool) =>
  Let (bif x2765 then true else x2766) fun (x2767 : Bool) =>
  Let
  (!(decide (r2756.fst.Settings.TimeStep = w0.Settings.TimeStep) &&
  (decide (r2756.fst.Settings.Gravity.X = w0.Settings.Gravity.X) &&
  decide (r2756.fst.Settings.Gravity.Y = w0.Settings.Gravity.Y) &&
  (decide (r2756.fst.Settings.Iterations = w0.Settings.Iterations) &&
  decide (r2756.fst.Settings.SleepSteps = w0.Settings.SleepSteps)))))
  fun (x2768 : Bool) =>
  Let (bif x2767 then true else x2768) fun (x2769 : Bool) =>
  if x2769 = true then some false
  else
  LOOP
  (fun (rec2770 : Int → Option Bool) (s2771 : Int) =>
  Let (↑l1.length : Int) fun (x2772 : Int) =>
  Let (decide (s2771 < x2772)) fun (x2773 : Bool) =>
  if x2773 = true then
  Chk ((0 : Int) ≤ s2771 ∧ s2771 < (↑(List.length r2756.snd) : Int))
  (Let (ix r2756.snd s2771) fun (x2774 : Int) =>
  Let (x2774 == (0 : Int)) fun (x2775 : Bool) =>
  Chk ((x2775 == true) = true → (0 : Int) ≤ s2771 ∧ s2771 < (↑l1.length : Int))
  (Let (ix l1 s2771) fun (x2776 : Input) =>
  Rx.Bind (if (x2775 == true) = true then input_Validate x2776 else some default) fun (r2777 : Int) =>
  Let (r2777 != (0 : Int)) fun (x2778 : Bool) =>
  Let (bif x2775 then x2778 else false) fun (x2779 : Bool) =>
  if x2779 = true then some false else Let (IntKind.i64.wrap (s2771 + (1 : Int))) fun (x2780 : Int) => rec2770 x2780))
  else Rx.Bind caromlaw43_example fun (r2781 : Bool) => some r2781)
  fuel (0 : Int)

noncomputable def slices_Equal_117 (s10 : (List ContactPoint)) (s21 : (List ContactPoint)) : Option Bool :=
  Let (↑s10.length : Int) fun (x2782 : Int) =>
  Let (↑s21.length : Int) fun (x2783 : Int) =>
  Let (x2782 != x2783) fun (x2784 : Bool) =>
  if x2784 = true then some false
  else
  Let (↑s10.length : Int) fun (x2785 : Int) =>
  LOOP
  (fun (rec2786 : Int → Option Bool) (s2787 : Int) =>
  Let (decide (s2787 < x2785)) fun (x2788 : Bool) =>
  if x2788 = true then
  Chk ((0 : Int) ≤ s2787 ∧ s2787 < (↑s10.length : Int))
  (Let (ix s10 s2787) fun (x2789 : ContactPoint) =>
  Chk ((0 : Int) ≤ s2787 ∧ s2787 < (↑s21.length : Int))
  (Let (ix s21 s2787) fun (x2790 : ContactPoint) =>
  Let
  (!(decide (x2789.Point.X = x2790.Point.X) && decide (x2789.Point.Y = x2790.Point.Y) &&
  (decide (x2789.Separation = x2790.Separation) &&
  (decide (x2789.ID = x2790.ID) &&
  (decide (x2789.NormalImpulse = x2790.NormalImpulse) && decide (x2789.TangentImpulse = x2790.TangentImpulse))))))
  fun (x2791 : Bool) =>
  if x2791 = true then some false else Let (IntKind.i64.wrap (s2787 + (1 : Int))) fun (x2792 : Int) => rec2786 x2792))
  else some true)
  fuel (0 : Int)

noncomputable def manifold_Equal (a0 : Manifold) (b1 : Manifold) : Option Bool :=
  Let (decide (a0.Normal.X = b1.Normal.X) && decide (a0.Normal.Y = b1.Normal.Y)) fun (x2793 : Bool) =>
  Rx.Bind (if (x2793 == true) = true then slices_Equal_117 a0.Points b1.Points else some default) fun (r2794 : Bool) =>
  Let (bif x2793 then r2794 else false) fun (x2795 : Bool) => some x2795

noncomputable def world_Equal_1 (x0 : Contact) (y1 : Contact) : Option Bool :=
  Let
  (decide (x0.Key.BodyA = y1.Key.BodyA) &&
  (decide (x0.Key.FixtureA = y1.Key.FixtureA) &&
  (decide (x0.Key.BodyB = y1.Key.BodyB) && decide (x0.Key.FixtureB = y1.Key.FixtureB))))
  fun (x2796 : Bool) =>
  Rx.Bind (if (x2796 == true) = true then manifold_Equal x0.Manifold y1.Manifold else some default) fun (r2797 : Bool) =>
  Let (bif x2796 then r2797 else false) fun (x2798 : Bool) => some x2798

noncomputable def slices_EqualFunc (s10 : (List Body)) (s21 : (List Body)) (eq2 : ((Body × Body) → Option Bool)) : Option Bool :=
  Let (↑s10.length : Int) fun (x2799 : Int) =>
  Let (↑s21.length : Int) fun (x2800 : Int) =>
  Let (x2799 != x2800) fun (x2801 : Bool) =>
  if x2801 = true then some false
  else
  Let (↑s10.length : Int) fun (x2802 : Int) =>
  LOOP
  (fun (rec2803 : Int → Option Bool) (s2804 : Int) =>
  Let (decide (s2804 < x2802)) fun (x2805 : Bool) =>
  if x2805 = true then
  Chk ((0 : Int) ≤ s2804 ∧ s2804 < (↑s10.length : Int))
  (Let (ix s10 s2804) fun (x2806 : Body) =>
  Chk ((0 : Int) ≤ s2804 ∧ s2804 < (↑s21.length : Int))
  (Let (ix s21 s2804) fun (x2807 : Body) =>
  Rx.Bind (eq2 (x2806, x2807)) fun (r2808 : Bool) =>
  Let (!r2808) fun (x2809 : Bool) =>
  if x2809 = true then some false else Let (IntKind.i64.wrap (s2804 + (1 : Int))) fun (x2810 : Int) => rec2803 x2810))
  else some true)
  fuel (0 : Int)

noncomputable def slices_Equal (s10 : (List Joint)) (s21 : (List Joint)) : Option Bool :=
  Let (↑s10.length : Int) fun (x2811 : Int) =>
  Let (↑s21.length : Int) fun (x2812 : Int) =>
  Let (x2811 != x2812) fun (x2813 : Bool) =>
  if x2813 = true then some false
  else
  Let (↑s10.length : Int) fun (x2814 : Int) =>
  LOOP
  (fun (rec2815 : Int → Option Bool) (s2816 : Int) =>
  Let (decide (s2816 < x2814)) fun (x2817 : Bool) =>
  if x2817 = true then
  Chk ((0 : Int) ≤ s2816 ∧ s2816 < (↑s10.length : Int))
  (Let (ix s10 s2816) fun (x2818 : Joint) =>
  Chk ((0 : Int) ≤ s2816 ∧ s2816 < (↑s21.length : Int))
  (Let (ix s21 s2816) fun (x2819 : Joint) =>
  Let
  (!(decide (x2818.ID = x2819.ID) &&
  (decide (x2818.Kind = x2819.Kind) &&
  (decide (x2818.BodyA = x2819.BodyA) &&
  (decide (x2818.BodyB = x2819.BodyB) &&
  (decide (x2818.AnchorA.X = x2819.AnchorA.X) && decide (x2818.AnchorA.Y = x2819.AnchorA.Y) &&
  (decide (x2818.AnchorB.X = x2819.AnchorB.X) && decide (x2818.AnchorB.Y = x2819.AnchorB.Y) &&
  (decide (x2818.Axis.X = x2819.Axis.X) && decide (x2818.Axis.Y = x2819.Axis.Y) &&
  (decide (x2818.ReferenceAngle = x2819.ReferenceAngle) &&
  (decide (x2818.EnableLimit = x2819.EnableLimit) &&
  (decide (x2818.Lower = x2819.Lower) &&
  (decide (x2818.Upper = x2819.Upper) &&
  (decide (x2818.EnableMotor = x2819.EnableMotor) &&
  (decide (x2818.MotorSpeed = x2819.MotorSpeed) &&
  (decide (x2818.MaxForce = x2819.MaxForce) &&
  (decide (x2818.Softness = x2819.Softness) &&
  (decide (x2818.BreakForce = x2819.BreakForce) &&
  (decide (x2818.CollideConnected = x2819.CollideConnected) &&
  (decide (x2818.Impulses.fst = x2819.Impulses.fst) &&
  (decide (x2818.Impulses.snd.fst = x2819.Impulses.snd.fst) &&
  (decide (x2818.Impulses.snd.snd.fst = x2819.Impulses.snd.snd.fst) &&
  decide (x2818.Impulses.snd.snd.snd = x2819.Impulses.snd.snd.snd))))))))))))))))))))))
  fun (x2820 : Bool) =>
  if x2820 = true then some false else Let (IntKind.i64.wrap (s2816 + (1 : Int))) fun (x2821 : Int) => rec2815 x2821))
  else some true)
  fuel (0 : Int)

noncomputable def slices_EqualFunc_61 (s10 : (List Contact)) (s21 : (List Contact)) (eq2 : ((Contact × Contact) → Option Bool)) : Option Bool :=
  Let (↑s10.length : Int) fun (x2822 : Int) =>
  Let (↑s21.length : Int) fun (x2823 : Int) =>
  Let (x2822 != x2823) fun (x2824 : Bool) =>
  if x2824 = true then some false
  else
  Let (↑s10.length : Int) fun (x2825 : Int) =>
  LOOP
  (fun (rec2826 : Int → Option Bool) (s2827 : Int) =>
  Let (decide (s2827 < x2825)) fun (x2828 : Bool) =>
  if x2828 = true then
  Chk ((0 : Int) ≤ s2827 ∧ s2827 < (↑s10.length : Int))
  (Let (ix s10 s2827) fun (x2829 : Contact) =>
  Chk ((0 : Int) ≤ s2827 ∧ s2827 < (↑s21.length : Int))
  (Let (ix s21 s2827) fun (x2830 : Contact) =>
  Rx.Bind (eq2 (x2829, x2830)) fun (r2831 : Bool) =>
  Let (!r2831) fun (x2832 : Bool) =>
  if x2832 = true then some false else Let (IntKind.i64.wrap (s2827 + (1 : Int))) fun (x2833 : Int) => rec2826 x2833))
  else some true)
  fuel (0 : Int)

noncomputable def slices_Equal_62 (s10 : (List PairKey)) (s21 : (List PairKey)) : Option Bool :=
  Let (↑s10.length : Int) fun (x2834 : Int) =>
  Let (↑s21.length : Int) fun (x2835 : Int) =>
  Let (x2834 != x2835) fun (x2836 : Bool) =>
  if x2836 = true then some false
  else
  Let (↑s10.length : Int) fun (x2837 : Int) =>
  LOOP
  (fun (rec2838 : Int → Option Bool) (s2839 : Int) =>
  Let (decide (s2839 < x2837)) fun (x2840 : Bool) =>
  if x2840 = true then
  Chk ((0 : Int) ≤ s2839 ∧ s2839 < (↑s10.length : Int))
  (Let (ix s10 s2839) fun (x2841 : PairKey) =>
  Chk ((0 : Int) ≤ s2839 ∧ s2839 < (↑s21.length : Int))
  (Let (ix s21 s2839) fun (x2842 : PairKey) =>
  Let
  (!(decide (x2841.BodyA = x2842.BodyA) &&
  (decide (x2841.FixtureA = x2842.FixtureA) &&
  (decide (x2841.BodyB = x2842.BodyB) && decide (x2841.FixtureB = x2842.FixtureB)))))
  fun (x2843 : Bool) =>
  if x2843 = true then some false else Let (IntKind.i64.wrap (s2839 + (1 : Int))) fun (x2844 : Int) => rec2838 x2844))
  else some true)
  fuel (0 : Int)

noncomputable def world_Equal (a0 : World_) (b1 : World_) : Option Bool :=
  Let
  (decide (a0.Settings.TimeStep = b1.Settings.TimeStep) &&
  (decide (a0.Settings.Gravity.X = b1.Settings.Gravity.X) && decide (a0.Settings.Gravity.Y = b1.Settings.Gravity.Y) &&
  (decide (a0.Settings.Iterations = b1.Settings.Iterations) && decide (a0.Settings.SleepSteps = b1.Settings.SleepSteps))))
  fun (x2845 : Bool) =>
  Let (a0.NextID == b1.NextID) fun (x2846 : Bool) =>
  Let (bif x2845 then x2846 else false) fun (x2847 : Bool) =>
  Let (a0.Frame == b1.Frame) fun (x2848 : Bool) =>
  Let (bif x2847 then x2848 else false) fun (x2849 : Bool) =>
  Rx.Bind
  (if (x2849 == true) = true then
  slices_EqualFunc a0.Bodies b1.Bodies fun (a : Tup tb [Ix.tBody, Ix.tBody]) => body_Equal a.fst a.snd
  else some default)
  fun (r2850 : Bool) =>
  Let (bif x2849 then r2850 else false) fun (x2851 : Bool) =>
  Rx.Bind (if (x2851 == true) = true then slices_Equal a0.Joints b1.Joints else some default) fun (r2852 : Bool) =>
  Let (bif x2851 then r2852 else false) fun (x2853 : Bool) =>
  Rx.Bind
  (if (x2853 == true) = true then
  slices_EqualFunc_61 a0.Contacts b1.Contacts fun (a : Tup tb [Ix.tContact, Ix.tContact]) => world_Equal_1 a.fst a.snd
  else some default)
  fun (r2854 : Bool) =>
  Let (bif x2853 then r2854 else false) fun (x2855 : Bool) =>
  Rx.Bind (if (x2855 == true) = true then slices_Equal_62 a0.Overlaps b1.Overlaps else some default) fun (r2856 : Bool) =>
  Let (bif x2855 then r2856 else false) fun (x2857 : Bool) => some x2857

noncomputable def caromlaw43_InputSequence (w0 : World_) (l1 : (List Input)) (cut2 : UInt8) : Option Bool :=
  Rx.Bind (caromref25_Few w0) fun (r2858 : Bool) =>
  Let (!r2858) fun (x2859 : Bool) =>
  Rx.Bind (if (x2859 == false) = true then caromlaw43_few l1 else some default) fun (r2860 : Bool) =>
  Let (!r2860) fun (x2861 : Bool) =>
  Let (bif x2859 then true else x2861) fun (x2862 : Bool) =>
  Rx.Bind (if (x2862 == false) = true then world_Validate w0 else some default) fun (r2863 : Int) =>
  Let (r2863 != (0 : Int)) fun (x2864 : Bool) =>
  Let (bif x2862 then true else x2864) fun (x2865 : Bool) =>
  if x2865 = true then Rx.Bind caromlaw43_example fun (r2866 : Bool) => some r2866
  else
  Let (↑cut2.toNat : Int) fun (x2867 : Int) =>
  Let (↑l1.length : Int) fun (x2868 : Int) =>
  Let (IntKind.i64.wrap (x2868 + (1 : Int))) fun (x2869 : Int) =>
  Chk (x2869 ≠ (0 : Int))
  (Let (x2867.tmod x2869) fun (x2870 : Int) =>
  Rx.Bind (input_ApplyAll w0 l1) fun (r2871 : World_ × List Int) =>
  Chk ((0 : Int) ≤ x2870 ∧ x2870 ≤ (↑l1.length : Int))
  (Let (List.take x2870.toNat l1) fun (x2872 : List Input) =>
  Rx.Bind (input_ApplyAll w0 x2872) fun (r2873 : World_ × List Int) =>
  Chk ((0 : Int) ≤ x2870 ∧ x2870 ≤ (↑l1.length : Int))
  (Let (List.drop x2870.toNat l1) fun (x2874 : List Input) =>
  Rx.Bind (input_ApplyAll r2873.fst x2874) fun (r2875 : World_ × List Int) =>
  Rx.Bind (world_Equal r2871.fst r2875.fst) fun (r2876 : Bool) =>
  Let (!r2876) fun (x2877 : Bool) =>
  Let (↑(List.length r2871.snd) : Int) fun (x2878 : Int) =>
  Let (↑l1.length : Int) fun (x2879 : Int) =>
  Let (x2878 != x2879) fun (x2880 : Bool) =>
  Let (bif x2877 then true else x2880) fun (x2881 : Bool) =>
  Let (↑(List.length r2873.snd) : Int) fun (x2882 : Int) =>
  Let (↑(List.length r2875.snd) : Int) fun (x2883 : Int) =>
  Let (IntKind.i64.wrap (x2882 + x2883)) fun (x2884 : Int) =>
  Let (↑(List.length r2871.snd) : Int) fun (x2885 : Int) =>
  Let (x2884 != x2885) fun (x2886 : Bool) =>
  Let (bif x2881 then true else x2886) fun (x2887 : Bool) =>
  if x2887 = true then some false
  else
  LOOP
  (fun (rec2888 : Int → Option Bool) (s2889 : Int) =>
  Let (↑(List.length r2873.snd) : Int) fun (x2890 : Int) =>
  Let (decide (s2889 < x2890)) fun (x2891 : Bool) =>
  if x2891 = true then
  Chk ((0 : Int) ≤ s2889 ∧ s2889 < (↑(List.length r2873.snd) : Int))
  (Let (ix r2873.snd s2889) fun (x2892 : Int) =>
  Chk ((0 : Int) ≤ s2889 ∧ s2889 < (↑(List.length r2871.snd) : Int))
  (Let (ix r2871.snd s2889) fun (x2893 : Int) =>
  Let (x2892 != x2893) fun (x2894 : Bool) =>
  if x2894 = true then some false else Let (IntKind.i64.wrap (s2889 + (1 : Int))) fun (x2895 : Int) => rec2888 x2895))
  else
  LOOP
  (fun (rec2896 : Int → Option Bool) (s2897 : Int) =>
  Let (↑(List.length r2875.snd) : Int) fun (x2898 : Int) =>
  Let (decide (s2897 < x2898)) fun (x2899 : Bool) =>
  if x2899 = true then
  Chk ((0 : Int) ≤ s2897 ∧ s2897 < (↑(List.length r2875.snd) : Int))
  (Let (ix r2875.snd s2897) fun (x2900 : Int) =>
  Let (IntKind.i64.wrap (x2870 + s2897)) fun (x2901 : Int) =>
  Chk ((0 : Int) ≤ x2901 ∧ x2901 < (↑(List.length r2871.snd) : Int))
  (Let (ix r2871.snd x2901) fun (x2902 : Int) =>
  Let (x2900 != x2902) fun (x2903 : Bool) =>
  if x2903 = true then some false else Let (IntKind.i64.wrap (s2897 + (1 : Int))) fun (x2904 : Int) => rec2896 x2904))
  else Rx.Bind caromlaw43_example fun (r2905 : Bool) => some r2905)
  fuel (0 : Int))
  fuel (0 : Int))))

end GoForm
